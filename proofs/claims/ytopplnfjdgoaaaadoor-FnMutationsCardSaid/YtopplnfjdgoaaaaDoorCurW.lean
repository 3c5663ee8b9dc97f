/- A cursor in memory, in the words of what a draw keeps. No condition. -/
import Derived.Test.YtopplnfjdgoaaaaDoorCur1
import Derived.Test.YtopplnfjdgoaaaaDoorOwn
import Derived.RangeFuncBox
import Derived.WalkSpells
import Derived.WalkLawsBesides
namespace Go.Proofs.YtopplnfjdgoaaaaDoor
open Go.RowKit
/-- Block b is a cursor over l. -/
structure CurW (b : Nat) (v : Value) (l : List UInt8) (w : World) : Prop where
  sl : SlB w b v l
  at_ : CurAt w b v l.length
/-- Nothing but block b was written; there may be new blocks. -/
abbrev GoB (b : Nat) (w w' : World) : Prop := w.grownBy w' (some b)
theorem CurW.lt {b : Nat} {v : Value} {l : List UInt8} {w : World} (h : CurW b v l w) : b < w.heap.size := h.at_.lt
theorem GoB.out {b : Nat} {w w' : World} (h : GoB b w w') : Out b (b + 1) w w' := Out.of_grown h (fun k e => by cases e; omega)
theorem GoB.below {b B : Nat} {a w w' : World} (h : GoB b w w') (hb : Below B a w) (hB : B ≤ w.heap.size) (hbB : B ≤ b) : Below B a w' := hb.grown h hB (fun k e => by cases e; exact hbB)
theorem GoB.of_below {b : Nat} {w w' : World} (h : Below w.heap.size w w') : GoB b w w' := ⟨h.os, h.tape, h.output, h.size, fun k hk _ => h.block k hk⟩
theorem GoB.trans {b : Nat} {a w w' : World} (h : GoB b a w) (k : GoB b w w') : GoB b a w' := grownBy_trans h k
theorem CurW.step {b : Nat} {v : Value} {l : List UInt8} {w w' : World} (h : CurW b v l w) (hs : GoB b w w') (hc : CurAt w' b v l.length) : CurW b v l w' :=
  ⟨Sl.below h.sl ((Below.refl b w).grown hs (by have := h.lt; omega) (fun k e => by cases e; exact Nat.le_refl _)), hc⟩
theorem CurW.below {b : Nat} {v : Value} {l : List UInt8} {w w' : World} (h : CurW b v l w) (hb : Below w.heap.size w w') : CurW b v l w' :=
  ⟨Sl.below h.sl (hb.mono (by have := h.lt; omega)), h.at_.grown (hb.mono h.lt)⟩
theorem CurW.alloc {b : Nat} {v : Value} {l : List UInt8} {w : World} (h : CurW b v l w) (o : Obj) : CurW b v l (w.alloc o) := h.below ((Below.refl _ _).alloc (Nat.le_refl _) o)
theorem GoB.alloc {b : Nat} {a w : World} (h : GoB b a w) (o : Obj) : GoB b a (w.alloc o) := h.trans (GoB.of_below ((Below.refl _ _).alloc (Nat.le_refl _) o))
theorem below_any (b B : Nat) (v : Value) (l : List UInt8) (m : Int) (w : World) (h : CurW b v l w) (hm : 0 < m) (hm2 : m ≤ 16777216) :
    Calls Tryd.prog 25 #[.pointer (some ⟨b, 0, none⟩), .int .i64 m] w fun e w' => (∃ x : Int, e = .returned (.int .i64 x) ∧ 0 ≤ x ∧ x < m) ∧ GoB b w w' ∧ w'.heap.size = w.heap.size ∧ CurW b v l w' := by
  refine (l1Below_any b b v l m w h.sl (Nat.le_refl _) h.at_ hm hm2).mono ?_
  rintro e w' ⟨⟨x, he, h0, h1⟩, hs, hc⟩
  exact ⟨⟨x, he, h0, by omega⟩, hs.1, hs.2, h.step hs.1 hc⟩
end Go.Proofs.YtopplnfjdgoaaaaDoor
