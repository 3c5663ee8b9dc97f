/- The walks of FindEntry, EntryAt and SmallestAround, spec and impl: the first or last entry that meets a test. Conditions: the slice reads as a list of entries whose numbers are ints. -/
import Derived.Test.YtjbildcomjdpjaaEntry
import Derived.Test.YtjbildcomjdpjaaOpenEntry
import Derived.WalkSpells
import Derived.WalkLawsBesides
import Derived.BigQuiet
import Derived.Deep.QuietTactic
import Derived.BigGuardPart
namespace Go.Proofs.Ytjbildcomjdpjaa
open Go.RowKit

/-- From k on, c numbers: the first that p takes, or -1. -/
def firstAux (p : Nat → Bool) : Nat → Nat → Int
  | 0, _ => -1
  | c + 1, k => if p k then k else firstAux p c (k + 1)
/-- Of the numbers below k the last that p takes, or -1. -/
def lastTo (p : Nat → Bool) : Nat → Int
  | 0 => -1
  | k + 1 => if p k then k else lastTo p k
theorem firstAux_yes {p : Nat → Bool} {n k : Nat} (h : k < n) (hp : p k = true) : firstAux p (n - k) k = k := by
  rw [show n - k = (n - k - 1) + 1 from by omega, firstAux, if_pos hp]
theorem firstAux_no {p : Nat → Bool} {n k : Nat} (h : k < n) (hp : p k = false) : firstAux p (n - k) k = firstAux p (n - (k + 1)) (k + 1) := by
  rw [show n - k = (n - (k + 1)) + 1 from by omega, firstAux, if_neg (by simp [hp])]
theorem firstAux_end {p : Nat → Bool} {n k : Nat} (h : ¬ k < n) : firstAux p (n - k) k = -1 := by
  rw [show n - k = 0 from by omega, firstAux]
theorem lastTo_yes {p : Nat → Bool} {k : Nat} (hp : p k = true) : lastTo p (k + 1) = k := by rw [lastTo, if_pos hp]
theorem lastTo_no {p : Nat → Bool} {k : Nat} (hp : p k = false) : lastTo p (k + 1) = lastTo p k := by rw [lastTo, if_neg (by simp [hp])]

def hit (q : Ent → Bool) (l : List Ent) (k : Nat) : Bool := (l[k]?.map q).getD false
theorem hit_at {q : Ent → Bool} {l : List Ent} {k : Nat} (h : k < l.length) : hit q l k = q l[k] := by simp [hit, h]

def pathIs (p : ByteArray) (e : Ent) : Bool := e.path.toList == p.toList

end Go.Proofs.Ytjbildcomjdpjaa
