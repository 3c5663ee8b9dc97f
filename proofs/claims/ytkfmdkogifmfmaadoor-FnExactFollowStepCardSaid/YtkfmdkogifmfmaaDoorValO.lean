/- Values that a law owns: sizes, copies, comparison, in the words of Own. No condition but those of the arguments. -/
import Derived.Test.YtkfmdkogifmfmaaDoorValEq
namespace Go.Proofs.YtkfmdkogifmfmaaDoor
set_option linter.unusedSimpArgs false
set_option linter.unusedVariables false
open Go.RowKit
theorem OwV.agg {X : Val} {lo hi : Nat} {w : World} {v : Value} (h : OwV X lo hi w v) : ∃ A c A' c', v = .agg #[.int .i64 X.n, .slice A X.b.length c, .slice A' X.items.length c'] := by
  obtain ⟨x, rfl, rfl, h3⟩ := h
  obtain ⟨A, c, e1⟩ := own_slice h3.own.bytes
  obtain ⟨A', c', e2⟩ := own_slice h3.own.row
  refine ⟨A, c, A', c', ?_⟩
  unfold vmV
  rw [e1, e2]
  simp
theorem szV_law {w0 w : World} {x : VM} {X : Val} {v : Value} {n : Int} (h : x.rd w0 w0.heap.size) (hX : x.d = X) (hv : v = vmV x) (b : Below w0.heap.size w0 w) (h0 : 0 ≤ n) (h1 : n ≤ 1048576) :
    Calls Tryd.prog 15 #[v, .int .i64 n] w (SzL (X.size ≤ 1048576) n w) := by
  subst hX hv
  exact (szValue_any x _ n w (h.bel b) b.size h0 h1).mono fun _ _ hq => hq.szL h1 h0
theorem toV_law {w0 w : World} {x : VM} {X : Val} {v : Value} (h : x.rd w0 w0.heap.size) (hX : x.d = X) (hv : v = vmV x) (b : Below w0.heap.size w0 w) (hs : X.size ≤ 1048576) :
    Calls Tryd.prog 17 #[v] w (Made (OwV X) w) := by
  subst hX hv
  exact toValue_any x _ w (h.bel b) b.size hs
theorem eqV_law {w : World} {v v' : Value} {X : Val} {lo hi lo' hi' : Nat} (h : OwV X lo hi w v) (h' : OwV X lo' hi' w v') :
    Calls Tryd.prog 19 #[v, v'] w (True1 w) := by
  obtain ⟨x, e1, rfl, r1⟩ := h.rd
  obtain ⟨y, e2, rfl, r2⟩ := h'.rd
  exact eqValue_same x y (e2.trans e1.symm) _ _ w r1 r2 (Nat.le_refl _) (Nat.le_refl _)
end Go.Proofs.YtkfmdkogifmfmaaDoor
