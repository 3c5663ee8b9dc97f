/- Whether steps fit a pattern, as a table of rows; rows of bools. Plain: no program in sight. No condition. -/
import Derived.Test.YtglminmoglncpaaMem
import Derived.Test.YtglminmoglncpaaInts
namespace Go.Proofs.Ytglminmoglncpaa

/-- The row of the first n values of f. -/
def rowB (f : Nat → Bool) (n : Nat) : List Value := (List.range n).map fun k => .bool (f k)
@[simp] theorem rowB_length (f : Nat → Bool) (n : Nat) : (rowB f n).length = n := by simp [rowB]
theorem rowB_at (f : Nat → Bool) (n k : Nat) (h : k < n) : (rowB f n)[k]? = some (.bool (f k)) := by simp [rowB, List.getElem?_map, List.getElem?_range h]
/-- Of f the first j values, then false. -/
def mixB (f : Nat → Bool) (j : Nat) : Nat → Bool := fun k => decide (k < j) && f k
theorem mixB_zero (f : Nat → Bool) (n : Nat) : rowB (mixB f 0) n = List.replicate n (.bool false) := by
  apply List.ext_getElem?
  intro k
  by_cases hk : k < n
  · rw [rowB_at _ _ _ hk, List.getElem?_replicate, if_pos hk]; simp [mixB]
  · rw [List.getElem?_eq_none (by simpa using hk), List.getElem?_eq_none (by simpa using hk)]
theorem rowB_congr {f g : Nat → Bool} {n : Nat} (h : ∀ k, k < n → f k = g k) : rowB f n = rowB g n := by
  unfold rowB; exact List.map_congr_left fun k hk => by rw [h k (List.mem_range.1 hk)]
theorem mixB_all (f : Nat → Bool) (n : Nat) : rowB (mixB f n) n = rowB f n := rowB_congr fun k hk => by simp [mixB, hk]
theorem rowB_set (f g : Nat → Bool) (n j : Nat) (b : Bool) (hb : g j = b) (h : ∀ k, k ≠ j → f k = g k) : (rowB f n).set j (.bool b) = rowB g n := by
  subst hb
  apply List.ext_getElem?
  intro k
  rw [List.getElem?_set]
  by_cases hk : j = k
  · subst hk
    by_cases hn : j < n
    · rw [if_pos rfl, rowB_length, if_pos hn, rowB_at _ _ _ hn]
    · rw [List.getElem?_eq_none (by simpa using hn)]; simp [hn]
  · rw [if_neg hk]
    by_cases hkn : k < n
    · rw [rowB_at _ _ _ hkn, rowB_at _ _ _ hkn, h k (fun e => hk e.symm)]
    · rw [List.getElem?_eq_none (by simpa using hkn), List.getElem?_eq_none (by simpa using hkn)]
theorem mixB_put {f : Nat → Bool} {n j : Nat} {b : Bool} (hb : f j = b) : (rowB (mixB f j) n).set j (.bool b) = rowB (mixB f (j + 1)) n := by
  refine rowB_set _ _ _ _ _ (by simp [mixB, hb]) fun k hk => ?_
  unfold mixB
  have : decide (k < j) = decide (k < j + 1) := by rw [decide_eq_decide]; omega
  rw [this]
theorem mixB_skip {f : Nat → Bool} {n j : Nat} (hb : f j = false) : rowB (mixB f j) n = rowB (mixB f (j + 1)) n := by
  refine rowB_congr fun k _ => ?_
  unfold mixB
  by_cases hk : k = j
  · subst hk; simp [hb]
  · have : decide (k < j) = decide (k < j + 1) := by rw [decide_eq_decide]; omega
    rw [this]
theorem mixB_new {f : Nat → Bool} {j k : Nat} (h : k < j) : mixB f j k = f k := by simp [mixB, h]

/-- Whether a step fits an element of a pattern. -/
def fitB (p s : ByteArray) : Bool := if p.toList == [35] then isNum s.data.toList else p.toList == s.toList
/-- Whether the first i elements of a pattern fit the first k steps. -/
def reach (P S : List ByteArray) : Nat → Nat → Bool
  | 0, k => decide (k = 0)
  | i + 1, 0 => if ((P[i]?).getD ⟨#[]⟩).toList == [46, 46] then reach P S i 0 else false
  | i + 1, k + 1 => if ((P[i]?).getD ⟨#[]⟩).toList == [46, 46] then reach P S i (k + 1) || reach P S (i + 1) k else reach P S i k && fitB ((P[i]?).getD ⟨#[]⟩) ((S[k]?).getD ⟨#[]⟩)
  termination_by i k => (i, k)
theorem reach_zero (P S : List ByteArray) (k : Nat) : reach P S 0 k = decide (k = 0) := by unfold reach; rfl
theorem reach_one (P S : List ByteArray) (i : Nat) (h : i < P.length) : reach P S (i + 1) 0 = if P[i].toList == [46, 46] then reach P S i 0 else false := by
  rw [reach, List.getElem?_eq_getElem h]; rfl
theorem reach_succ (P S : List ByteArray) (i k : Nat) (h : i < P.length) (hk : k < S.length) : reach P S (i + 1) (k + 1) = if P[i].toList == [46, 46] then reach P S i (k + 1) || reach P S (i + 1) k else reach P S i k && fitB P[i] S[k] := by
  rw [reach, List.getElem?_eq_getElem h, List.getElem?_eq_getElem hk]; rfl
theorem rowB_start (P S : List ByteArray) (n : Nat) : (List.replicate n (Value.bool false)).set 0 (.bool true) = rowB (reach P S 0) n := by
  rw [← mixB_zero (fun _ => false)]
  exact rowB_set _ _ _ _ _ (by rw [reach_zero]; rfl) fun k hk => by rw [reach_zero]; simp [mixB, hk]
end Go.Proofs.Ytglminmoglncpaa
