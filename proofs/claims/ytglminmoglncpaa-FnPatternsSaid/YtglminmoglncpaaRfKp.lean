/- What a round of a loop that collects keeps: every block of cells but the box and the row in it. No condition. -/
import Derived.Test.YtglminmoglncpaaSplitP
import Derived.RangeFuncNested
import Derived.RangeFuncBound
import Derived.RangeFuncCalls
import Derived.RangeFuncLeaves
import Derived.RangeFuncBox
import Derived.Maps.OwnIn
namespace Go.Proofs.Ytglminmoglncpaa
open Go.RowKit
/-- Block g is not the row of the slice in box b. -/
def FreeB (b g : Nat) (W : World) : Prop := ∀ v, W.cell? ⟨b, 0, none⟩ = some v → v.ownBlock ≠ some g
def KpB (b : Nat) (W W' : World) : Prop :=
  W.heap.size ≤ W'.heap.size ∧ ∀ g row t m, g ≠ b → W.heap[g]? = some (.cells row t m) → FreeB b g W → W'.heap[g]? = W.heap[g]? ∧ FreeB b g W'
theorem KpB.refl (b : Nat) (W : World) : KpB b W W := ⟨Nat.le_refl _, fun _ _ _ _ _ _ h => ⟨rfl, h⟩⟩
theorem KpB.trans {b : Nat} {A B C : World} (h : KpB b A B) (k : KpB b B C) : KpB b A C := by
  refine ⟨Nat.le_trans h.1 k.1, fun g row t m hn hg hf => ?_⟩
  obtain ⟨e1, f1⟩ := h.2 g row t m hn hg hf
  obtain ⟨e2, f2⟩ := k.2 g row t m hn (e1.trans hg) f1
  exact ⟨e2.trans e1, f2⟩
theorem cell_of_heap {A B : World} {b i : Nat} (h : B.heap[b]? = A.heap[b]?) : B.cell? ⟨b, i, none⟩ = A.cell? ⟨b, i, none⟩ := by
  simp only [World.cell?, h]
theorem KpB.putObj {b : Nat} {W : World} {l : Nat} {o : Obj} (o' : Obj) (hb : b ≠ l) (h : W.heap[l]? = some o) (ho : o.isCells = false) : KpB b W (W.putObj l o') := by
  refine ⟨by simp, fun g row t m _ hg hf => ?_⟩
  have hgl : g ≠ l := by rintro rfl; rw [hg] at h; cases h; cases ho
  refine ⟨World.putObj_heap_other (fun e => hgl (by omega)), fun v hv => hf v ?_⟩
  rw [← hv]; exact (cell_of_heap (World.putObj_heap_other (by omega))).symm
theorem KpB.below {b : Nat} {W W' : World} (hb : b < W.heap.size) (h : Below W.heap.size W W') : KpB b W W' := by
  refine ⟨h.size, fun g row t m _ hg hf => ⟨h.block g (Array.getElem?_eq_some_iff.1 hg).1, fun v hv => hf v ?_⟩⟩
  rw [← hv]; exact (cell_of_heap (h.block b hb)).symm
theorem KpB.appended {b : Nat} {W w1 : World} {t : TypeId} {v v' : Value} {tmp : Obj} (hv : Boxed W b t v) (hv1 : Boxed w1 b t v) (hgrow : (W.alloc tmp).grownBy w1 v.ownBlock)
    (hob : v'.ownBlock = v.ownBlock ∨ v'.ownBlock = some (W.alloc tmp).heap.size) : KpB b W (w1.setCell ⟨b, 0, none⟩ v') := by
  have hsz : W.heap.size + 1 ≤ w1.heap.size := by have := hgrow.size; simpa using this
  have hcell := (hv1.set v').cell
  refine ⟨by simp; omega, fun g row t m hn hg hf => ?_⟩
  have hgs : g < W.heap.size := (Array.getElem?_eq_some_iff.1 hg).1
  have hne := hf v hv.cell
  refine ⟨?_, fun u hu => ?_⟩
  · refine (Below.heap_setCell _ _ _ g (by show g ≠ b; exact hn)).trans ((hgrow.block g (by simp; omega) (fun e => hne e.symm)).trans ?_)
    exact Below.heap_alloc _ _ _ hgs
  · rw [hcell] at hu; cases hu
    rcases hob with h | h
    · rw [h]; exact hne
    · rw [h]; simp; omega
theorem grownBy_below {W W' : World} (h : Below W.heap.size W W') : W.grownBy W' none := ⟨h.os, h.tape, h.output, h.size, fun k hk _ => h.block k hk⟩
end Go.Proofs.Ytglminmoglncpaa
