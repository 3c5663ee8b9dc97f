/- The walks of the laws' helpers on []byte: toByteS copies into a row of its own, eqByteS compares, markByteS writes k, k+1, .. and heldByteS finds them again. Conditions: the slices read as lists, the marks do not wrap an int. -/
import Derived.Test.YtopplnfjdgoaaaaDoorRows
import Derived.Test.YtopplnfjdgoaaaaDoorMem
import Derived.WalkSpells
import Derived.WalkLawsBesides
import Derived.BigQuiet
import Derived.Deep.QuietTactic
namespace Go.Proofs.YtopplnfjdgoaaaaDoor
open Go.RowKit

theorem Tryd.info_u8 : (Tryd.prog.info? 5).map (fun i => (i.zero, i.size, i.bytes)) = some (some (.int .u8 0), 1, 1) := by kernel_rfl

/-- A new row of the call's own: what toByteS and its like leave. -/
def Fresh (w : World) (E : TypeId) (size n : Nat) (xs : List Value) (e : Ending) (w' : World) : Prop :=
  ∃ v, e = .returned v ∧ w'.ownsRow w.heap.size E size v n xs ∧ Below w.heap.size w w'

/-- Of src the first k, then zeros. -/
def filled (src : List Value) (z : Value) (k : Nat) : List Value := src.take k ++ List.replicate (src.length - k) z
theorem filled_zero (src : List Value) (z : Value) : filled src z 0 = List.replicate src.length z := by simp [filled]
theorem filled_all (src : List Value) (z : Value) : filled src z src.length = src := by simp [filled]
theorem filled_set (src : List Value) (z : Value) (k : Nat) (h : k < src.length) : (filled src z k).set k src[k] = filled src z (k + 1) := by
  apply List.ext_getElem?
  intro i
  simp only [filled, List.getElem?_set, List.getElem?_append, List.length_take, List.getElem?_take, List.getElem?_replicate, List.length_append, List.length_replicate]
  by_cases h1 : k = i
  · subst h1
    simp [h, Nat.min_eq_left (Nat.le_of_lt h), Nat.min_eq_left (Nat.succ_le_of_lt h)]
    omega
  · by_cases h4 : i < src.length
    · by_cases h2 : i < k
      · simp [h1, h4, h2, Nat.min_eq_left (Nat.le_of_lt h), Nat.min_eq_left (Nat.succ_le_of_lt h), show i < k + 1 from by omega]
      · simp [h1, h2, Nat.min_eq_left (Nat.le_of_lt h), Nat.min_eq_left (Nat.succ_le_of_lt h), show ¬ i < k + 1 from by omega, show i - k < src.length - k from by omega, show i - (k + 1) < src.length - (k + 1) from by omega]
    · simp [h1, Nat.min_eq_left (Nat.le_of_lt h), Nat.min_eq_left (Nat.succ_le_of_lt h), show ¬ i < k + 1 from by omega, show ¬ i < k from by omega, show ¬ i - k < src.length - k from by omega, show ¬ i - (k + 1) < src.length - (k + 1) from by omega]

theorem u8s_at (l : List UInt8) (k : Nat) (h : k < l.length) : (u8s l)[k]'(by simpa using h) = .int .u8 (l[k].toNat : Int) := by simp [u8s, u8v]

/-- The call returns v, the world has at most drawn orders. -/
def Quiet (w : World) (v : Value) (e : Ending) (w' : World) : Prop := e = .returned v ∧ ∃ n, w' = w.drewN n
theorem Quiet.below {w w' : World} {v : Value} {e : Ending} (h : Quiet w v e w') : e = .returned v ∧ Below w.heap.size w w' := by
  obtain ⟨he, n, rfl⟩ := h
  exact ⟨he, below_drewN (Below.refl _ _) n⟩

theorem quiet_below {P : Program} {f : FuncId} {args : Array Value} {w : World} {v : Value} (h : Calls P f args w (Quiet w v)) : Calls P f args w fun e w' => e = .returned v ∧ Below w.heap.size w w' := h.mono fun _ _ hq => hq.below

theorem take_next {α : Type} [DecidableEq α] {l l' : List α} {k : Nat} (hk : k < l.length) (hk' : k < l'.length) (h : l.take k = l'.take k) (e : l[k] = l'[k]) : l.take (k + 1) = l'.take (k + 1) := by
  rw [List.take_succ_eq_append_getElem hk, List.take_succ_eq_append_getElem hk', h, e]

/-- The marks from k on. -/
def marks (k n : Nat) : List UInt8 := (List.range n).map fun i => UInt8.ofNat (k + i)
@[simp] theorem marks_length (k n : Nat) : (marks k n).length = n := by simp [marks]
theorem marks_at (k n i : Nat) (h : i < n) : (marks k n)[i]'(by simpa using h) = UInt8.ofNat (k + i) := by simp [marks]
theorem marks_u8 (k n i : Nat) (h : i < n) : (((marks k n)[i]'(by simpa using h)).toNat : Int) = ((k : Int) + i) % 256 := by rw [marks_at k n i h]; simp

/-- Of xs the first j replaced by the marks from k on. -/
def marked (xs : List Value) (k j : Nat) : List Value := u8s (marks k j) ++ xs.drop j
theorem marked_zero (xs : List Value) (k : Nat) : marked xs k 0 = xs := by simp [marked, marks, u8s]
theorem marked_all (xs : List Value) (k : Nat) : marked xs k xs.length = u8s (marks k xs.length) := by simp [marked]
theorem marked_length (xs : List Value) (k j : Nat) (h : j ≤ xs.length) : (marked xs k j).length = xs.length := by simp [marked]; omega
theorem marked_set (xs : List Value) (k j : Nat) (h : j < xs.length) : (marked xs k j).set j (.int .u8 (((k : Int) + j) % 256)) = marked xs k (j + 1) := by
  have e1 : marks k (j + 1) = marks k j ++ [UInt8.ofNat (k + j)] := by simp [marks, List.range_succ]
  have e2 : (.int .u8 (((k : Int) + j) % 256) : Value) = u8v (UInt8.ofNat (k + j)) := by simp [u8v]
  simp only [marked]
  rw [List.set_append_right _ _ (by simp)]
  simp only [u8s_length, marks_length, Nat.sub_self]
  rw [List.drop_eq_getElem_cons h, List.set_cons_zero, e1, u8s_append, e2]
  simp [u8s]

/-- The row that v owns is written, all else is as it was. -/
def Marked (w : World) (base : Nat) (E : TypeId) (size : Nat) (v : Value) (n : Nat) (xs : List Value) (r : Int) (e : Ending) (w' : World) : Prop :=
  e = .returned (.int .i64 r) ∧ w'.ownsRow base E size v n xs ∧ w.grownBy w' v.ownBlock

theorem own_u8 {w : World} {base : Nat} {v : Value} {l : List UInt8} (h : w.ownsRow base 5 1 v l.length (u8s l)) : SlB w w.heap.size v l := Sl.of_own h
end Go.Proofs.YtopplnfjdgoaaaaDoor
