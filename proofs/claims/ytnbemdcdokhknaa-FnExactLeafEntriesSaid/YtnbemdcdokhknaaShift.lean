/- The walks of ShiftEntries, spec and impl. Condition: the slice reads as a list of at most 2^20 entries. -/
import Derived.Test.YtnbemdcdokhknaaRows
import Derived.Test.YtnbemdcdokhknaaEntryS
import Derived.Test.YtnbemdcdokhknaaApp
import Derived.WalkSpells
import Derived.WalkLawsBesides
import Derived.BigQuiet
import Derived.Deep.QuietTactic
import Derived.Deep.RegionHeld3
namespace Go.Proofs.Ytnbemdcdokhknaa
set_option linter.unusedSimpArgs false
set_option linter.unusedVariables false
open Go.RowKit

def shiftE (d : Int) (e : Ent) : Ent := ⟨e.path, e.rule, wrap64 (e.start + d), wrap64 (e.stop + d)⟩
theorem map_next {α β : Type} (f : α → β) (l : List α) (k : Nat) (h : k < l.length) : (l.take (k + 1)).map f = (l.take k).map f ++ [f l[k]] := by
  rw [List.take_succ_eq_append_getElem h, List.map_append]; rfl
theorem entsCells_snoc (a : List Ent) (e : Ent) : entsCells (a ++ [e]) = entsCells a ++ entCells e := by simp [entsCells]
theorem entCells_one (e : Ent) : ∀ u ∈ entCells e, u.oneCell' = true := by
  intro u hu; simp only [entCells, List.mem_cons, List.mem_nil_iff, or_false] at hu
  rcases hu with rfl | rfl | rfl | rfl <;> rfl
/-- A new block that holds one entry, as a slice. -/
theorem sl_ent_one {W : World} {e : Ent} {t : TypeId} {g : Nat} (hg : g = W.heap.size) : Sl (W.alloc (.cells #[.string e.path, .int .i64 e.rule, .int .i64 e.start, .int .i64 e.stop] t)) (W.heap.size + 1) 4 (.slice (some ⟨g, 0, none⟩) 1 1) 1 (entCells e) := by
  subst hg
  refine ⟨by simp [entCells], _, _, rfl, by simp, by simp [maxLen], fun _ => ⟨W.heap.size, 0, rfl, by omega, fun j u hu => ?_⟩⟩
  match j, hu with
  | 0, hu => simp only [entCells, List.getElem?_cons_zero, Option.some.injEq] at hu; subst hu; simp [go_sem]
  | 1, hu => simp only [entCells, List.getElem?_cons_succ, List.getElem?_cons_zero, Option.some.injEq] at hu; subst hu; simp [go_sem]
  | 2, hu => simp only [entCells, List.getElem?_cons_succ, List.getElem?_cons_zero, Option.some.injEq] at hu; subst hu; simp [go_sem]
  | 3, hu => simp only [entCells, List.getElem?_cons_succ, List.getElem?_cons_zero, Option.some.injEq] at hu; subst hu; simp [go_sem]
  | j + 4, hu => simp [entCells] at hu

theorem own_slice {w : World} {base : Nat} {e : TypeId} {size : Nat} {v : Value} {n : Nat} {xs : List Value} (h : w.ownsRow base e size v n xs) :
    ∃ A c, v = .slice A n c ∧ n ≤ c ∧ c ≤ maxLen ∧ (0 < n → ∃ g, A = some ⟨g, 0, none⟩ ∧ base ≤ g) := by
  rcases h.2 with ⟨rfl, rfl⟩ | ⟨g, cap, cur, rfl, hb, hg, hc, hm, _⟩
  · exact ⟨none, 0, rfl, Nat.le_refl _, Nat.zero_le _, fun h => absurd h (by omega)⟩
  · exact ⟨_, _, rfl, hc, hm, fun _ => ⟨g, rfl, hb⟩⟩
/-- Of the entries the first k shifted. -/
def mixE (d : Int) (l : List Ent) (k : Nat) : List Ent := (l.take k).map (shiftE d) ++ l.drop k
theorem mixE_split (d : Int) (l : List Ent) (k : Nat) (h : k < l.length) :
    entsCells (mixE d l k) = (entsCells ((l.take k).map (shiftE d)) ++ [.string l[k].path, .int .i64 l[k].rule]) ++ ([.int .i64 l[k].start, .int .i64 l[k].stop] ++ entsCells (l.drop (k + 1))) := by
  have e := List.drop_eq_getElem_cons h
  rw [mixE]
  generalize l.drop (k + 1) = S at *
  generalize l[k] = x at *
  rw [e]
  simp [entsCells, entCells]
theorem mixE_next (d : Int) (l : List Ent) (k : Nat) (h : k < l.length) :
    (entsCells ((l.take k).map (shiftE d)) ++ [.string l[k].path, .int .i64 l[k].rule]) ++ [.int .i64 (wrap64 (l[k].start + d)), .int .i64 (wrap64 (l[k].stop + d))] ++ ([Value.int .i64 l[k].start, .int .i64 l[k].stop] ++ entsCells (l.drop (k + 1))).drop 2 = entsCells (mixE d l (k + 1)) := by
  rw [mixE, map_next _ _ _ h]
  simp [entsCells, entCells, shiftE]
theorem mixE_zero (d : Int) (l : List Ent) : mixE d l 0 = l := by simp [mixE]
theorem mixE_all (d : Int) (l : List Ent) : mixE d l l.length = l.map (shiftE d) := by simp [mixE]

end Go.Proofs.Ytnbemdcdokhknaa
