/- FollowStep in the words of Own, spec and impl. No condition but those of the arguments. -/
import Derived.Test.YtkfmdkogifmfmaaDoorFolW
import Derived.Test.YtkfmdkogifmfmaaDoorValO
namespace Go.Proofs.YtkfmdkogifmfmaaDoor
set_option linter.unusedSimpArgs false
set_option linter.unusedVariables false
open Go.RowKit
theorem Val.items_le (X : Val) : X.items.length ≤ X.size := by
  cases X with
  | mk n b l => rw [Val.size_mk]; have := Val.length_le l; show l.length ≤ _; omega
theorem specFollow_law {w : World} {v u : Value} {D : List RuleD} {X : Val} {lo hi lo' hi' : Nat} {i : Int} {s : ByteArray} (h : OwD D lo hi w v) (hk : okD D) (hv : OwV X lo' hi' w u) (hx : X.size ≤ 1048576) :
    Calls Tryd.prog 16 #[.agg #[v], .int .i64 i, u, .string s] w fun e w' => e = .returned (.int .i64 (followOf D i X.items.length s)) ∧ Below w.heap.size w w' := by
  obtain ⟨l, rfl, r⟩ := h.sl
  obtain ⟨x, rfl, rfl, rx⟩ := hv.rd
  have := Val.items_le x.d
  rw [VM.d_items, List.length_map] at this ⊢
  exact specFollow_any v l i x s _ w r (Nat.le_refl _) hk.l.1 hk.l.2 rx (by omega)
theorem implFollow_law {w0 w : World} {v u : Value} {D : List RuleD} {X : Val} {lo hi lo' hi' : Nat} {i : Int} {s : ByteArray} (h : OwD D lo hi w v) (hk : okD D) (hv : OwV X lo' hi' w u) (hx : X.size ≤ 1048576) (hs : s.size ≤ maxLen) (ht : Tab w0) (hb : Below w0.heap.size w0 w) :
    Calls Tryd.prog 18 #[.agg #[v], .int .i64 i, u, .string s] w fun e w' => e = .returned (.int .i64 (followOf D i X.items.length s)) ∧ Below w.heap.size w w' := by
  obtain ⟨l, rfl, r⟩ := h.sl
  obtain ⟨x, rfl, rfl, rx⟩ := hv.rd
  have := Val.items_le x.d
  rw [VM.d_items, List.length_map] at this ⊢
  exact implFollow_any v l i x s _ w r (Nat.le_refl _) hk.l.1 hk.l.2 rx (by omega) hs (tab_on ht hb)
end Go.Proofs.YtkfmdkogifmfmaaDoor
