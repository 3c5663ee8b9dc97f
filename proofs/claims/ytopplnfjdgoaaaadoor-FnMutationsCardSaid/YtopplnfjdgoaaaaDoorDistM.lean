/- The least number of changes between two lists, as a table of rows: plain, no program in sight. No condition. -/
import Derived.Test.YtopplnfjdgoaaaaDoorMem
namespace Go.Proofs.YtopplnfjdgoaaaaDoor

/-- The number at row i, column k. -/
def dist (a b : List UInt8) : Nat → Nat → Nat
  | 0, k => k
  | i + 1, 0 => i + 1
  | i + 1, k + 1 => min (dist a b i k + if a[i]? = b[k]? then 0 else 1) (min (dist a b i (k + 1)) (dist a b (i + 1) k) + 1)
  termination_by i k => (i, k)
theorem dist_zero (a b : List UInt8) (k : Nat) : dist a b 0 k = k := by unfold dist; rfl
theorem dist_col (a b : List UInt8) (i : Nat) : dist a b i 0 = i := by cases i <;> (unfold dist; rfl)
theorem dist_succ (a b : List UInt8) (i k : Nat) : dist a b (i + 1) (k + 1) = min (dist a b i k + if a[i]? = b[k]? then 0 else 1) (min (dist a b i (k + 1)) (dist a b (i + 1) k) + 1) := by
  rw [dist]
theorem dist_le (a b : List UInt8) (i : Nat) : ∀ k, dist a b i k ≤ i + k := by
  induction i with
  | zero => intro k; rw [dist_zero]; omega
  | succ i ih =>
    intro k
    induction k with
    | zero => rw [dist_col]; omega
    | succ k ihk => rw [dist_succ]; have := ih (k + 1); omega
/-- Row i of the table, up to column n. -/
def distRow (a b : List UInt8) (i n : Nat) : List Value := (List.range n).map fun k => .int .i64 (dist a b i k : Nat)
@[simp] theorem distRow_length (a b : List UInt8) (i n : Nat) : (distRow a b i n).length = n := by simp [distRow]
theorem distRow_at (a b : List UInt8) (i n k : Nat) (h : k < n) : (distRow a b i n)[k]? = some (.int .i64 (dist a b i k : Nat)) := by
  simp [distRow, List.getElem?_map, List.getElem?_range h]
theorem distRow_succ (a b : List UInt8) (i n : Nat) : distRow a b i (n + 1) = distRow a b i n ++ [.int .i64 (dist a b i n : Nat)] := by
  simp [distRow, List.range_succ]
/-- The row under work: of row i + 1 the columns up to j, of row i the others. -/
def distMix (a b : List UInt8) (i n j : Nat) : List Value := (List.range n).map fun k => .int .i64 ((if k < j then dist a b (i + 1) k else dist a b i k : Nat) : Int)
@[simp] theorem distMix_length (a b : List UInt8) (i n j : Nat) : (distMix a b i n j).length = n := by simp [distMix]
theorem distMix_new (a b : List UInt8) (i n j k : Nat) (h : k < n) (hk : k < j) : (distMix a b i n j)[k]? = some (.int .i64 (dist a b (i + 1) k : Nat)) := by
  simp [distMix, List.getElem?_map, List.getElem?_range h, hk]
theorem distMix_old (a b : List UInt8) (i n j k : Nat) (h : k < n) (hk : ¬ k < j) : (distMix a b i n j)[k]? = some (.int .i64 (dist a b i k : Nat)) := by
  simp [distMix, List.getElem?_map, List.getElem?_range h, hk]
theorem distMix_zero (a b : List UInt8) (i n : Nat) : distMix a b i n 0 = distRow a b i n := by simp [distMix, distRow]
theorem distMix_all (a b : List UInt8) (i n : Nat) : distMix a b i n n = distRow a b (i + 1) n := by
  simp only [distMix, distRow]
  apply List.map_congr_left
  intro k hk
  rw [if_pos (List.mem_range.1 hk)]
theorem distMix_set (a b : List UInt8) (i n j : Nat) (h : j < n) : (distMix a b i n j).set j (.int .i64 (dist a b (i + 1) j : Nat)) = distMix a b i n (j + 1) := by
  apply List.ext_getElem?
  intro k
  rw [List.getElem?_set]
  by_cases hk : j = k
  · subst hk
    simp only [if_true, distMix_length, h]
    rw [distMix_new _ _ _ _ _ _ h (by omega)]
  · rw [if_neg hk]
    by_cases hkn : k < n
    · by_cases hlt : k < j
      · rw [distMix_new _ _ _ _ _ _ hkn hlt, distMix_new _ _ _ _ _ _ hkn (by omega)]
      · rw [distMix_old _ _ _ _ _ _ hkn hlt, distMix_old _ _ _ _ _ _ hkn (by omega)]
    · rw [List.getElem?_eq_none (by simpa using hkn), List.getElem?_eq_none (by simpa using hkn)]
theorem distRow_one (l : List Value) (a b : List UInt8) (i n : Nat) (h : ∀ k, k < n → l[k]? = some (.int .i64 (dist a b i k : Nat))) (hl : l.length = n) : l = distRow a b i n := by
  apply List.ext_getElem?
  intro k
  by_cases hk : k < n
  · rw [h k hk, distRow_at _ _ _ _ _ hk]
  · rw [List.getElem?_eq_none (by omega), List.getElem?_eq_none (by simp; omega)]
theorem byte_eq_iff {a b : List UInt8} {i k : Nat} (hi : i < a.length) (hk : k < b.length) : (a[i]? = b[k]?) ↔ a[i] = b[k] := by
  rw [List.getElem?_eq_getElem hi, List.getElem?_eq_getElem hk]; simp
theorem u8_int_ne {x y : UInt8} (h : x ≠ y) : ((x.toNat : Int) == (y.toNat : Int)) = false := by
  rw [beq_eq_false_iff_ne]; intro hx; exact h (UInt8.toNat_inj.1 (by omega))
end Go.Proofs.YtopplnfjdgoaaaaDoor
