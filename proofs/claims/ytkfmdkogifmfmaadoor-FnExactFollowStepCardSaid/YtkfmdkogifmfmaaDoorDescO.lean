/- Descriptions that a law owns: sizes, copies, comparison, known, in the words of Own; opening the argument. No condition but those of the arguments. -/
import Derived.Test.YtkfmdkogifmfmaaDoorDescZ2
namespace Go.Proofs.YtkfmdkogifmfmaaDoor
set_option linter.unusedSimpArgs false
set_option linter.unusedVariables false
open Go.RowKit
theorem szD_law {w0 w : World} {v : Value} {l : List RM} {n : Int} (h : SlD w0 w0.heap.size v l) (b : Below w0.heap.size w0 w) (ok : ∀ r ∈ l, r.d.ok) (h0 : 0 ≤ n) (h1 : n ≤ 1048576) :
    Calls Tryd.prog 6 #[.agg #[v], .int .i64 n] w (SzL (l.length ≤ 1048576 ∧ ∀ r ∈ l, r.d.small 1048576) n w) := szDescription_any v l _ n w (h.below b) b.size ok h0 h1
theorem toD_law {w0 w : World} {v : Value} {l : List RM} {D : List RuleD} (h : SlD w0 w0.heap.size v l) (b : Below w0.heap.size w0 w) (hs : l.length ≤ 1048576 ∧ ∀ r ∈ l, r.d.small 1048576) (hD : l.map RM.d = D) :
    Calls Tryd.prog 9 #[.agg #[v]] w fun e w' => ∃ v', e = .returned (.agg #[v']) ∧ OwD D w.heap.size w'.heap.size w' v' ∧ Below w.heap.size w w' := by
  subst hD
  exact toDescription_any v l _ w (h.below b) b.size hs.1 hs.2
theorem eqD_law {w : World} {v v' : Value} {D : List RuleD} {lo hi lo' hi' : Nat} (h : OwD D lo hi w v) (h' : OwD D lo' hi' w v') :
    Calls Tryd.prog 12 #[.agg #[v], .agg #[v']] w (True1 w) := by
  obtain ⟨l, e, s⟩ := h.sl
  obtain ⟨l', e', s'⟩ := h'.sl
  exact eqDescription_same v v' l l' _ _ w s s' (Nat.le_refl _) (Nat.le_refl _) (e'.trans e.symm)
/-- The rules are ints and small. -/
structure okD (D : List RuleD) : Prop where
  ok : ∀ r ∈ D, r.ok
  sm : ∀ r ∈ D, r.small 1048576
theorem okD_of {l : List RM} {D : List RuleD} (ok : ∀ r ∈ l, r.d.ok) (hs : l.length ≤ 1048576 ∧ ∀ r ∈ l, r.d.small 1048576) (hD : l.map RM.d = D) : okD D := by
  subst hD
  constructor
  · intro r hr
    obtain ⟨x, hx, rfl⟩ := List.mem_map.1 hr
    exact ok x hx
  · intro r hr
    obtain ⟨x, hx, rfl⟩ := List.mem_map.1 hr
    exact hs.2 x hx
theorem okD.l {l : List RM} (h : okD (l.map RM.d)) : (∀ r ∈ l, r.d.ok) ∧ ∀ r ∈ l, r.d.small 1048576 := ⟨fun r hr => h.ok _ (List.mem_map_of_mem hr), fun r hr => h.sm _ (List.mem_map_of_mem hr)⟩
theorem OwD.slice {D : List RuleD} {lo hi : Nat} {w : World} {v : Value} (h : OwD D lo hi w v) : ∃ A c, v = .slice A D.length c := by
  obtain ⟨l, m, rfl, h2, _⟩ := h
  obtain ⟨A, c, e⟩ := row_slice h2
  exact ⟨A, c, by rw [e, List.length_map]⟩
end Go.Proofs.YtkfmdkogifmfmaaDoor
