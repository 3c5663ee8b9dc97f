/- The draws of paths: l1Str, l1Once, l18Text, DrawSplitPath. Conditions: the cursor's block holds a cursor over the bytes l. -/
import Derived.Test.YtglminmoglncpaaCur1
import Derived.RangeFuncBox
import Derived.Test.YtglminmoglncpaaSplitP
import Derived.WalkSpells
import Derived.WalkLawsBesides
namespace Go.Proofs.Ytglminmoglncpaa
open Go.RowKit
/-- Block b is a cursor over l. -/
structure CurW (b : Nat) (v : Value) (l : List UInt8) (w : World) : Prop where
  sl : SlB w b v l
  at_ : CurAt w b v l.length
/-- Nothing but block b was written; there may be new blocks. -/
abbrev GoB (b : Nat) (w w' : World) : Prop := w.grownBy w' (some b)
theorem CurW.lt {b : Nat} {v : Value} {l : List UInt8} {w : World} (h : CurW b v l w) : b < w.heap.size := h.at_.lt
theorem GoB.out {b : Nat} {w w' : World} (h : GoB b w w') : Out b (b + 1) w w' := Out.of_grown h (fun k e => by cases e; omega)
theorem GoB.below {b B : Nat} {a w w' : World} (h : GoB b w w') (hb : Below B a w) (hB : B ≤ w.heap.size) (hbB : B ≤ b) : Below B a w' := hb.grown h hB (fun k e => by cases e; exact hbB)
theorem GoB.of_below {b : Nat} {w w' : World} (h : Below w.heap.size w w') : GoB b w w' := ⟨h.os, h.tape, h.output, h.size, fun k hk _ => h.block k hk⟩
theorem GoB.trans {b : Nat} {a w w' : World} (h : GoB b a w) (k : GoB b w w') : GoB b a w' := grownBy_trans h k
theorem CurW.step {b : Nat} {v : Value} {l : List UInt8} {w w' : World} (h : CurW b v l w) (hs : GoB b w w') (hc : CurAt w' b v l.length) : CurW b v l w' :=
  ⟨Sl.below h.sl ((Below.refl b w).grown hs (by have := h.lt; omega) (fun k e => by cases e; exact Nat.le_refl _)), hc⟩
theorem CurW.below {b : Nat} {v : Value} {l : List UInt8} {w w' : World} (h : CurW b v l w) (hb : Below w.heap.size w w') : CurW b v l w' :=
  ⟨Sl.below h.sl (hb.mono (by have := h.lt; omega)), h.at_.grown (hb.mono h.lt)⟩
theorem CurW.alloc {b : Nat} {v : Value} {l : List UInt8} {w : World} (h : CurW b v l w) (o : Obj) : CurW b v l (w.alloc o) := h.below ((Below.refl _ _).alloc (Nat.le_refl _) o)
theorem GoB.alloc {b : Nat} {a w : World} (h : GoB b a w) (o : Obj) : GoB b a (w.alloc o) := h.trans (GoB.of_below ((Below.refl _ _).alloc (Nat.le_refl _) o))
theorem below_any (b B : Nat) (v : Value) (l : List UInt8) (m : Int) (w : World) (h : CurW b v l w) (hm : 0 < m) (hm2 : m ≤ 16777216) :
    Calls Try.prog 51 #[.pointer (some ⟨b, 0, none⟩), .int .i64 m] w fun e w' => (∃ x : Int, e = .returned (.int .i64 x) ∧ 0 ≤ x ∧ x < m) ∧ GoB b w w' ∧ w'.heap.size = w.heap.size ∧ CurW b v l w' := by
  refine (l1Below_any b b v l m w h.sl (Nat.le_refl _) h.at_ hm hm2).mono ?_
  rintro e w' ⟨⟨x, he, h0, h1⟩, hs, hc⟩
  exact ⟨⟨x, he, h0, by omega⟩, hs.1, hs.2, h.step hs.1 hc⟩
set_option maxHeartbeats 400000 in
theorem l1Once_any (b B : Nat) (v : Value) (l : List UInt8) (m : Int) (w : World) (h : CurW b v l w) (hm : 0 < m) (hm2 : m ≤ 16777216) :
    Calls Try.prog 41 #[.pointer (some ⟨b, 0, none⟩), .int .i64 m] w fun e w' => (∃ x : Bool, e = .returned (.bool x)) ∧ GoB b w w' ∧ w'.heap.size = w.heap.size ∧ CurW b v l w' := by
  go_enter Try.func41, Try.ntmps41
  go_wp2_with fail
  refine (below_any b b v l m w h hm hm2).mono ?_
  rintro e w1 ⟨⟨x, rfl, _, _⟩, hs, hz, hc⟩
  have H := Lib.hid (And.intro hs (And.intro hz hc))
  clear hs hz hc h
  go_wp2
  go_ret
  exact ⟨⟨_, rfl⟩, H.out⟩
/-- A list of texts laid in a new block. -/
theorem rdS_lit {w : World} (xs : List ByteArray) (cs : Array Value) (hcs : cs = (xs.map Value.string).toArray) (g n : Nat) (hg : g = w.heap.size) (hn : n = xs.length) (hx : xs.length ≤ maxLen) :
    RdS xs g (g + 1) (w.alloc (.cells cs 9)) (.slice (some ⟨g, 0, none⟩) n n) := by
  subst hg hn hcs
  refine ⟨⟨by simp, _, _, rfl, Nat.le_refl _, hx, fun _ => ⟨_, _, rfl, Nat.lt_succ_self _, fun j u hu => ?_⟩⟩, fun ad n c e => by cases e; exact Nat.le_refl _, by simp⟩
  simp only [Nat.zero_add]
  have := World.alloc_heap_new w (.cells (xs.map Value.string).toArray 9)
  simp only [World.cell?, this]
  rw [← hu]
  simp
set_option maxHeartbeats 400000 in
theorem l1Str_any (b lo hi : Nat) (v u : Value) (l : List UInt8) (xs : List ByteArray) (w : World) (h : CurW b v l w) (hu : RdS xs lo hi w u) (hlo : b < lo) (h1 : 1 ≤ xs.length) (h2 : xs.length ≤ 256) :
    Calls Try.prog 42 #[.pointer (some ⟨b, 0, none⟩), u] w fun e w' => (∃ x ∈ xs, e = .returned (.string x)) ∧ GoB b w w' ∧ w'.heap.size = w.heap.size ∧ CurW b v l w' := by
  obtain ⟨A, c, rfl, hc, hm, hcell⟩ := (show SlS w hi u xs from hu.1).one
  unfold maxLen at hm
  go_enter Try.func42, Try.ntmps42
  go_wp2_with fail
  refine (below_any b b v l xs.length w h (by omega) (by omega)).mono ?_
  rintro e w1 ⟨⟨x, rfl, hx0, hx1⟩, hs, hz, hcw⟩
  obtain ⟨k, rfl⟩ := Int.eq_ofNat_of_zero_le hx0
  have hk : k < xs.length := by omega
  have hcell2 := (show SlS w1 hi _ xs from (hu.keep hs.out (by omega)).1).one
  obtain ⟨A', c', e', _, _, hcell2⟩ := hcell2
  cases e'
  obtain ⟨bb, off, rfl, hbb, hd⟩ := hcell2 k hk
  have hmem : xs[k] ∈ xs := List.getElem_mem hk
  generalize xs[k] = y at *
  have H := Lib.hid (And.intro hmem (And.intro hs (And.intro hz hcw)))
  clear hcell hcell2 hu h hs hz hcw hmem
  go_wp2
  go_ret
  exact ⟨⟨y, H.out.1, rfl⟩, H.out.2⟩
end Go.Proofs.Ytglminmoglncpaa
