/-
  No cell of these rows narrows 'for every input' (looked for: loops, veiled, ifaces, maps, wideKeys, modest, calm, conditions, laid).
  DERIVED. THE GIVEN ROWS OF THIS SEAT. 5 by the template 'for every input the law returns true; each argument reads behind the call as it read before'; 0 by the template 'total and deterministic' (their statements: YtnbemdcdokhknaaTotals.lean).
  GIVEN WITH THE SEED: the statements are not yours to turn. If you find one false, say at which input.
  Laid BY PROGRAM, IN A SANDBOX (cutbox-rows.mjs): the forced cells as the released guide's own fill.sh prints them over the translation a14ee0f97fe4ed49… (all of the seat's roots in one cut). By AI agents, Wed Nov 11 2026. No macro, syntax, notation, axiom, sorry.
-/
import Derived.Test.YtnbemdcdokhknaaChecked
import GoSem.Claim
import GoSem.ClaimJoined
import GoSem.ClaimMapViews
import Derived.JoinedTies
import Derived.KernelRfl
namespace Go.Proofs.Ytnbemdcdokhknaa
/- THE CELL 'sum', in the pinned program and in every row, IS THE sha256 OF THE DUMP (.gsa) THAT YtnbemdcdokhknaaProg.lean LOADS. Nothing in Lean hashes anything: it is a label: what it is worth is what the hold of that sum in a sandbox is worth. -/
noncomputable def Try.pinned : Pinned := { name := "ytnbemdcdokhknaa", sum := "a14ee0f97fe4ed491505f6a10b9e011b1ef2da64b5ad30fe814df9c263f939e1", checked := Try.checked }
namespace Rows
def none {H : Type} : Left H := { results := [], args := [] }

/-- 'laws.FnExactLeafEntries': WHATEVER THE INPUT: true; the input reads as it did. -/
def fnExactLeafEntriesSpec : ChangeSpec := { name := "fnExactLeafEntries", fn := fun _ => fun
  | [d1, d2] => { results := [.lit (.bool true)], args := [d1, d2] }
  | _ => none }
def fnExactLeafEntriesRow : OpenClaim := { program := "ytnbemdcdokhknaa", sum := "a14ee0f97fe4ed491505f6a10b9e011b1ef2da64b5ad30fe814df9c263f939e1", func := "loop.example/g00518/laws.FnExactLeafEntries", spec := "fnExactLeafEntries", unfollowed := true, recurses := true, apart := false }
def FnExactLeafEntriesSaid : Prop := fnExactLeafEntriesRow.holds Try.pinned (OpenSpec.ofChange fnExactLeafEntriesSpec)

/-- ITS FALSE NEIGHBOUR: 'it returns false'. Refute it at one input. -/
def fnExactLeafEntriesWrong : ChangeSpec := { name := "fnExactLeafEntries", fn := fun _ => fun
  | [d1, d2] => { results := [.lit (.bool false)], args := [d1, d2] }
  | _ => none }
def FnExactLeafEntriesWrongFalsely : Prop := fnExactLeafEntriesRow.holds Try.pinned (OpenSpec.ofChange fnExactLeafEntriesWrong)

/-- 'laws.FnExactAlternatives': WHATEVER THE INPUT: true; the input reads as it did. -/
def fnExactAlternativesSpec : ChangeSpec := { name := "fnExactAlternatives", fn := fun _ => fun
  | [d1, d2] => { results := [.lit (.bool true)], args := [d1, d2] }
  | _ => none }
def fnExactAlternativesRow : OpenClaim := { program := "ytnbemdcdokhknaa", sum := "a14ee0f97fe4ed491505f6a10b9e011b1ef2da64b5ad30fe814df9c263f939e1", func := "loop.example/g00518/laws.FnExactAlternatives", spec := "fnExactAlternatives", apart := false }
def FnExactAlternativesSaid : Prop := fnExactAlternativesRow.holds Try.pinned (OpenSpec.ofChange fnExactAlternativesSpec)

/-- ITS FALSE NEIGHBOUR: 'it returns false'. Refute it at one input. -/
def fnExactAlternativesWrong : ChangeSpec := { name := "fnExactAlternatives", fn := fun _ => fun
  | [d1, d2] => { results := [.lit (.bool false)], args := [d1, d2] }
  | _ => none }
def FnExactAlternativesWrongFalsely : Prop := fnExactAlternativesRow.holds Try.pinned (OpenSpec.ofChange fnExactAlternativesWrong)

/-- 'laws.FnExactMinSize': WHATEVER THE INPUT: true; the input reads as it did. -/
def fnExactMinSizeSpec : ChangeSpec := { name := "fnExactMinSize", fn := fun _ => fun
  | [d1, d2] => { results := [.lit (.bool true)], args := [d1, d2] }
  | _ => none }
def fnExactMinSizeRow : OpenClaim := { program := "ytnbemdcdokhknaa", sum := "a14ee0f97fe4ed491505f6a10b9e011b1ef2da64b5ad30fe814df9c263f939e1", func := "loop.example/g00518/laws.FnExactMinSize", spec := "fnExactMinSize", unfollowed := true, recurses := true, apart := false }
def FnExactMinSizeSaid : Prop := fnExactMinSizeRow.holds Try.pinned (OpenSpec.ofChange fnExactMinSizeSpec)

/-- ITS FALSE NEIGHBOUR: 'it returns false'. Refute it at one input. -/
def fnExactMinSizeWrong : ChangeSpec := { name := "fnExactMinSize", fn := fun _ => fun
  | [d1, d2] => { results := [.lit (.bool false)], args := [d1, d2] }
  | _ => none }
def FnExactMinSizeWrongFalsely : Prop := fnExactMinSizeRow.holds Try.pinned (OpenSpec.ofChange fnExactMinSizeWrong)

/-- 'laws.FnExactMaxSize': WHATEVER THE INPUT: true; the input reads as it did. -/
def fnExactMaxSizeSpec : ChangeSpec := { name := "fnExactMaxSize", fn := fun _ => fun
  | [d1, d2] => { results := [.lit (.bool true)], args := [d1, d2] }
  | _ => none }
def fnExactMaxSizeRow : OpenClaim := { program := "ytnbemdcdokhknaa", sum := "a14ee0f97fe4ed491505f6a10b9e011b1ef2da64b5ad30fe814df9c263f939e1", func := "loop.example/g00518/laws.FnExactMaxSize", spec := "fnExactMaxSize", unfollowed := true, recurses := true, apart := false }
def FnExactMaxSizeSaid : Prop := fnExactMaxSizeRow.holds Try.pinned (OpenSpec.ofChange fnExactMaxSizeSpec)

/-- ITS FALSE NEIGHBOUR: 'it returns false'. Refute it at one input. -/
def fnExactMaxSizeWrong : ChangeSpec := { name := "fnExactMaxSize", fn := fun _ => fun
  | [d1, d2] => { results := [.lit (.bool false)], args := [d1, d2] }
  | _ => none }
def FnExactMaxSizeWrongFalsely : Prop := fnExactMaxSizeRow.holds Try.pinned (OpenSpec.ofChange fnExactMaxSizeWrong)

/-- 'laws.FnExactIsFixedSize': WHATEVER THE INPUT: true; the input reads as it did. -/
def fnExactIsFixedSizeSpec : ChangeSpec := { name := "fnExactIsFixedSize", fn := fun _ => fun
  | [d1, d2] => { results := [.lit (.bool true)], args := [d1, d2] }
  | _ => none }
def fnExactIsFixedSizeRow : OpenClaim := { program := "ytnbemdcdokhknaa", sum := "a14ee0f97fe4ed491505f6a10b9e011b1ef2da64b5ad30fe814df9c263f939e1", func := "loop.example/g00518/laws.FnExactIsFixedSize", spec := "fnExactIsFixedSize", unfollowed := true, recurses := true, apart := false }
def FnExactIsFixedSizeSaid : Prop := fnExactIsFixedSizeRow.holds Try.pinned (OpenSpec.ofChange fnExactIsFixedSizeSpec)

/-- ITS FALSE NEIGHBOUR: 'it returns false'. Refute it at one input. -/
def fnExactIsFixedSizeWrong : ChangeSpec := { name := "fnExactIsFixedSize", fn := fun _ => fun
  | [d1, d2] => { results := [.lit (.bool false)], args := [d1, d2] }
  | _ => none }
def FnExactIsFixedSizeWrongFalsely : Prop := fnExactIsFixedSizeRow.holds Try.pinned (OpenSpec.ofChange fnExactIsFixedSizeWrong)

/- THE SECOND FORM. 'bulk': how many values and letters a reading holds, each counted each time it is reached (what is shared counts as often as it is met; a slice's spare places count too). A statement '..UptoSaid' is the law's where the arguments, and the package variables that the reading takes, are together of bulk at most 1048576: NARROWER than '..Said'. Prove '..Said' where nothing that the law and all that it calls make is longer than what came in: it says more and counts as full. Else prove '..UptoSaid'. A law counts once. -/
mutual
def uptoBulk {H : Type} : DataW H → Nat
  | .lit (.string bytes) => bytes.length + 1
  | .lit _ => 1
  | .nil => 1
  | .ptr d => uptoBulk d + 1
  | .slice elems spare => uptoBulkAll elems + uptoBulkAll spare + 1
  | .agg parts => uptoBulkAll parts + 1
  | .iface _ d => uptoBulk d + 1
  | .map entries => uptoBulkEntries entries + 1
  | .held _ => 1
def uptoBulkAll {H : Type} : List (DataW H) → Nat
  | [] => 0
  | d :: r => uptoBulk d + uptoBulkAll r
def uptoBulkEntries {H : Type} : List (Lit × DataW H) → Nat
  | [] => 0
  | x :: r => uptoBulkEntry x + uptoBulkEntries r
def uptoBulkEntry {H : Type} : Lit × DataW H → Nat
  | (.string bytes, d) => bytes.length + uptoBulk d + 1
  | (_, d) => uptoBulk d + 1
 end
def uptoSmall : (H : Type) → List (DataW H) → Bool := fun _ ds => decide (uptoBulkAll ds ≤ 1048576)
def OpenSpec.upto (s : _root_.Go.ChangeSpec) : _root_.Go.OpenSpec := { _root_.Go.OpenSpec.ofChange s with cond := some uptoSmall }

/-- 'laws.FnExactLeafEntries', WHERE WHAT IT READS IS OF BULK AT MOST 1048576: true; the input reads as it did. -/
def fnExactLeafEntriesUptoRow : OpenClaim := { program := "ytnbemdcdokhknaa", sum := "a14ee0f97fe4ed491505f6a10b9e011b1ef2da64b5ad30fe814df9c263f939e1", func := "loop.example/g00518/laws.FnExactLeafEntries", spec := "fnExactLeafEntries", unfollowed := true, recurses := true, apart := false, narrowed := true }
def FnExactLeafEntriesUptoSaid : Prop := fnExactLeafEntriesUptoRow.holds Try.pinned (OpenSpec.upto fnExactLeafEntriesSpec)

/-- 'laws.FnExactAlternatives', WHERE WHAT IT READS IS OF BULK AT MOST 1048576: true; the input reads as it did. -/
def fnExactAlternativesUptoRow : OpenClaim := { program := "ytnbemdcdokhknaa", sum := "a14ee0f97fe4ed491505f6a10b9e011b1ef2da64b5ad30fe814df9c263f939e1", func := "loop.example/g00518/laws.FnExactAlternatives", spec := "fnExactAlternatives", apart := false, narrowed := true }
def FnExactAlternativesUptoSaid : Prop := fnExactAlternativesUptoRow.holds Try.pinned (OpenSpec.upto fnExactAlternativesSpec)

/-- 'laws.FnExactMinSize', WHERE WHAT IT READS IS OF BULK AT MOST 1048576: true; the input reads as it did. -/
def fnExactMinSizeUptoRow : OpenClaim := { program := "ytnbemdcdokhknaa", sum := "a14ee0f97fe4ed491505f6a10b9e011b1ef2da64b5ad30fe814df9c263f939e1", func := "loop.example/g00518/laws.FnExactMinSize", spec := "fnExactMinSize", unfollowed := true, recurses := true, apart := false, narrowed := true }
def FnExactMinSizeUptoSaid : Prop := fnExactMinSizeUptoRow.holds Try.pinned (OpenSpec.upto fnExactMinSizeSpec)

/-- 'laws.FnExactMaxSize', WHERE WHAT IT READS IS OF BULK AT MOST 1048576: true; the input reads as it did. -/
def fnExactMaxSizeUptoRow : OpenClaim := { program := "ytnbemdcdokhknaa", sum := "a14ee0f97fe4ed491505f6a10b9e011b1ef2da64b5ad30fe814df9c263f939e1", func := "loop.example/g00518/laws.FnExactMaxSize", spec := "fnExactMaxSize", unfollowed := true, recurses := true, apart := false, narrowed := true }
def FnExactMaxSizeUptoSaid : Prop := fnExactMaxSizeUptoRow.holds Try.pinned (OpenSpec.upto fnExactMaxSizeSpec)

/-- 'laws.FnExactIsFixedSize', WHERE WHAT IT READS IS OF BULK AT MOST 1048576: true; the input reads as it did. -/
def fnExactIsFixedSizeUptoRow : OpenClaim := { program := "ytnbemdcdokhknaa", sum := "a14ee0f97fe4ed491505f6a10b9e011b1ef2da64b5ad30fe814df9c263f939e1", func := "loop.example/g00518/laws.FnExactIsFixedSize", spec := "fnExactIsFixedSize", unfollowed := true, recurses := true, apart := false, narrowed := true }
def FnExactIsFixedSizeUptoSaid : Prop := fnExactIsFixedSizeUptoRow.holds Try.pinned (OpenSpec.upto fnExactIsFixedSizeSpec)

end Rows
end Go.Proofs.Ytnbemdcdokhknaa
