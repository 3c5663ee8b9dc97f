/- Marks: what a law writes into a row, and that rows lie apart. No condition. -/
import Derived.Test.YtacehndbkimggaaRows
import Derived.Test.YtacehndbkimggaaApp
import Derived.WalkSpells
import Derived.WalkLawsBesides
import Derived.Deep.RegionHeld3
namespace Go.Proofs.Ytacehndbkimggaa
open Go.RowKit
/-- Two rows made one after the other lie in different blocks. -/
theorem far_of {u v : Value} {a b : Nat} (L : ∀ k, u.ownBlock = some k → k < a) (G : ∀ k, v.ownBlock = some k → b ≤ k) (h : a ≤ b) : v.ownBlock = none ∨ v.ownBlock ≠ u.ownBlock := by
  cases hv : v.ownBlock with
  | none => exact .inl rfl
  | some k =>
    refine .inr fun e => ?_
    have h1 := L k e.symm
    have h2 := G k hv
    omega
theorem far_of' {u v : Value} {a b : Nat} (L : ∀ k, v.ownBlock = some k → k < a) (G : ∀ k, u.ownBlock = some k → b ≤ k) (h : a ≤ b) : v.ownBlock = none ∨ v.ownBlock ≠ u.ownBlock := by
  cases hv : v.ownBlock with
  | none => exact .inl rfl
  | some k =>
    refine .inr fun e => ?_
    have h1 := L k hv
    have h2 := G k e.symm
    omega
theorem below_mark {a w w1 : World} {B : Nat} {v : Value} (hg : w.grownBy w1 v.ownBlock) (G : ∀ k, v.ownBlock = some k → B ≤ k) (hB : B ≤ w.heap.size) (hb : Below B a w) : Below B a w1 := hb.grown hg hB G
end Go.Proofs.Ytacehndbkimggaa
namespace Go.Proofs.Ytacehndbkimggaa
open Go.RowKit
theorem mark1_any (v : Value) (n : Nat) (xs : List Value) (base : Nat) (w : World) (h : w.ownsRow base 5 1 v n xs) (hk : n ≤ 1048576) :
    Calls Try.prog 15 #[v, .int .i64 1] w (Marked w base 5 1 v n (u8s (marks 1 n)) (1 + n)) := markByteS_any v n xs 1 base w h (by omega)
theorem held1_any (v : Value) (n : Nat) (B : Nat) (w : World) (h : SlB w B v (marks 1 n)) (hk : n ≤ 1048576) :
    Calls Try.prog 16 #[v, .int .i64 1] w fun e w' => e = .returned (.int .i64 (1 + (n : Int))) ∧ w = w' := heldByteS_any v n 1 B w h (by omega)
theorem own_marks {w : World} {base n : Nat} {v : Value} (h : w.ownsRow base 5 1 v n (u8s (marks 1 n))) : SlB w w.heap.size v (marks 1 n) := by
  have := Sl.of_own h
  unfold SlB
  rw [marks_length]
  exact this
end Go.Proofs.Ytacehndbkimggaa
namespace Go.Proofs.Ytacehndbkimggaa
theorem mark2_any (v : Value) (n : Nat) (xs : List Value) (base : Nat) (w : World) (h : w.ownsRow base 5 1 v n xs) (hk : n ≤ 4194304) :
    Calls Try.prog 15 #[v, .int .i64 1] w (Marked w base 5 1 v n (u8s (marks 1 n)) (1 + n)) := markByteS_any v n xs 1 base w h (by omega)
theorem held2_any (v : Value) (n : Nat) (B : Nat) (w : World) (h : SlB w B v (marks 1 n)) (hk : n ≤ 4194304) :
    Calls Try.prog 16 #[v, .int .i64 1] w fun e w' => e = .returned (.int .i64 (1 + (n : Int))) ∧ w = w' := heldByteS_any v n 1 B w h (by omega)
end Go.Proofs.Ytacehndbkimggaa
