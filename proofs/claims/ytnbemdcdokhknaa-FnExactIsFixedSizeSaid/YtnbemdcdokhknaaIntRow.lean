/- Rows of ints: one element behind a literal, a row read whole. No condition. -/
import Derived.Test.YtnbemdcdokhknaaApp
import Derived.Test.YtnbemdcdokhknaaOwnI
namespace Go.Proofs.Ytnbemdcdokhknaa
set_option linter.unusedSimpArgs false
set_option linter.unusedVariables false
open Go.RowKit
theorem slI_one {W : World} {z : Int} {t : TypeId} {g : Nat} (hg : g = W.heap.size) : Sl (W.alloc (.cells #[.int .i64 z] t)) (W.heap.size + 1) 1 (.slice (some ⟨g, 0, none⟩) 1 1) 1 [.int .i64 z] := by
  subst hg
  refine ⟨by simp, _, _, rfl, by simp, by simp [maxLen], fun _ => ⟨W.heap.size, 0, rfl, by omega, fun j u hu => ?_⟩⟩
  match j, hu with
  | 0, hu => simp only [List.getElem?_cons_zero, Option.some.injEq] at hu; subst hu; simp [go_sem]
  | j + 1, hu => simp at hu
/-- A slice of ints that is not empty, its address and its cells. -/
theorem SlI.all {w : World} {B : Nat} {v : Value} {l : List Int} (h : SlI w B v l) (h0 : 0 < l.length) :
    ∃ b off c, v = .slice (some ⟨b, off, none⟩) l.length c ∧ l.length ≤ c ∧ c ≤ maxLen ∧ b < B ∧ ∀ j (hj : j < l.length), w.cell? ⟨b, off + j, none⟩ = some (.int .i64 l[j]) := by
  obtain ⟨_, A, c, rfl, hc, hm, hr⟩ := h
  obtain ⟨b, off, rfl, hb, hcell⟩ := hr h0
  exact ⟨b, off, c, rfl, hc, hm, hb, fun j hj => hcell j _ (by rw [List.getElem?_map, List.getElem?_eq_getElem hj]; rfl)⟩
theorem SlI.alln {w : World} {B n : Nat} {v : Value} {l : List Int} (h : SlI w B v l) (hn : l.length = n) (h0 : 0 < n) :
    ∃ b off c, v = .slice (some ⟨b, off, none⟩) n c ∧ n ≤ c ∧ c ≤ maxLen ∧ b < B ∧ ∀ j (hj : j < l.length), w.cell? ⟨b, off + j, none⟩ = some (.int .i64 l[j]) := by
  subst hn
  exact h.all h0
theorem ownI_sl {w : World} {base : Nat} {E : TypeId} {v : Value} {l : List Int} {n : Nat} (h : w.ownsRow base E 1 v n (l.map (.int .i64))) (hn : l.length = n) : SlI w w.heap.size v l := by
  subst hn
  exact Sl.of_own h
end Go.Proofs.Ytnbemdcdokhknaa
