/- Entries: how a slice of entries reads; the walks of the laws' helpers szEntry, toEntry, eqEntry on one entry. No condition but lengths. -/
import Derived.Test.YtnbemdcdokhknaaRows
import Derived.Test.YtnbemdcdokhknaaMem
import Derived.Test.YtnbemdcdokhknaaByte
import Derived.WalkSpells
import Derived.WalkLawsBesides
namespace Go.Proofs.Ytnbemdcdokhknaa
set_option linter.unusedSimpArgs false
set_option linter.unusedVariables false
open Go.RowKit

structure Ent where
  path : ByteArray
  rule : Int
  start : Int
  stop : Int

def entCells (e : Ent) : List Value := [.string e.path, .int .i64 e.rule, .int .i64 e.start, .int .i64 e.stop]
def entV (e : Ent) : Value := .agg #[.string e.path, .int .i64 e.rule, .int .i64 e.start, .int .i64 e.stop]
def entsCells (l : List Ent) : List Value := l.flatMap entCells
theorem entsCells_length (l : List Ent) : (entsCells l).length = l.length * 4 := by
  induction l with
  | nil => rfl
  | cons e l ih => simp only [entsCells, List.flatMap_cons, List.length_append, List.length_cons] at ih ⊢; rw [ih]; simp [entCells]; omega
theorem entsCells_at (l : List Ent) (k j : Nat) (hk : k < l.length) (hj : j < 4) : (entsCells l)[k * 4 + j]? = (entCells l[k])[j]? := by
  induction l generalizing k with
  | nil => simp at hk
  | cons e l ih =>
    cases k with
    | zero => simp only [entsCells, List.flatMap_cons, Nat.zero_mul, Nat.zero_add]; rw [List.getElem?_append_left (by simp [entCells]; omega)]; rfl
    | succ k =>
      simp only [entsCells, List.flatMap_cons]
      rw [List.getElem?_append_right (by simp [entCells]; omega)]
      have e1 : (k + 1) * 4 + j - (entCells e).length = k * 4 + j := by simp [entCells]; omega
      rw [e1]
      exact ih k (by simpa using hk)

theorem entsCells_next (l : List Ent) (k : Nat) (h : k < l.length) : entsCells (l.take k) ++ entCells l[k] = entsCells (l.take (k + 1)) := by
  rw [List.take_succ_eq_append_getElem h, entsCells, entsCells, List.flatMap_append, List.flatMap_cons, List.flatMap_nil, List.append_nil]

/-- The slice v reads as the entries l. -/
def SlE (w : World) (B : Nat) (v : Value) (l : List Ent) : Prop := Sl w B 4 v l.length (entsCells l)
theorem SlE.below {w w' : World} {B : Nat} {v : Value} {l : List Ent} (h : SlE w B v l) (hb : Below B w w') : SlE w' B v l := Sl.below h hb
theorem SlE.more {w : World} {B B' : Nat} {v : Value} {l : List Ent} (h : SlE w B v l) (hB : B ≤ B') : SlE w B' v l := Sl.more h hB
theorem SlE.open_ {w : World} {B : Nat} {v : Value} {l : List Ent} (h : SlE w B v l) : ∃ A c, v = .slice A l.length c ∧ l.length ≤ c ∧ c ≤ maxLen ∧
    (∀ k (hk : k < l.length), ∃ b off, A = some ⟨b, off, none⟩ ∧ b < B ∧ w.cell? ⟨b, off + k * 4, none⟩ = some (.string l[k].path) ∧ w.cell? ⟨b, off + k * 4 + 1, none⟩ = some (.int .i64 l[k].rule) ∧
      w.cell? ⟨b, off + k * 4 + 2, none⟩ = some (.int .i64 l[k].start) ∧ w.cell? ⟨b, off + k * 4 + 3, none⟩ = some (.int .i64 l[k].stop)) := by
  obtain ⟨_, A, c, rfl, hc, hm, hr⟩ := h
  refine ⟨A, c, rfl, hc, hm, fun k hk => ?_⟩
  obtain ⟨b, off, e, hb, hcell⟩ := hr (by omega)
  refine ⟨b, off, e, hb, ?_, ?_, ?_, ?_⟩
  · exact hcell (k * 4 + 0) _ (by rw [entsCells_at l k 0 hk (by omega)]; rfl)
  · exact hcell (k * 4 + 1) _ (by rw [entsCells_at l k 1 hk (by omega)]; rfl)
  · exact hcell (k * 4 + 2) _ (by rw [entsCells_at l k 2 hk (by omega)]; rfl)
  · exact hcell (k * 4 + 3) _ (by rw [entsCells_at l k 3 hk (by omega)]; rfl)

theorem szEntry_any (e : Ent) (n : Int) (w : World) (he : e.path.size ≤ maxLen) (h0 : 0 ≤ n) (h1 : n ≤ 1048576) :
    Calls Try.prog 28 #[entV e, .int .i64 n] w fun x w' => x = .returned (.int .i64 (if n - e.path.size < 0 then -1 else n - e.path.size)) ∧ Below w.heap.size w w' := by
  unfold maxLen at he
  unfold entV
  by_cases h : n - e.path.size < 0
  · rw [if_pos h]
    go_enter Try.func28, Try.ntmps28
    go_wp2
    go_ret
    exact ⟨rfl, (Below.refl _ _).alloc (Nat.le_refl _) _⟩
  · rw [if_neg h]
    go_enter Try.func28, Try.ntmps28
    go_wp2
    go_ret
    exact ⟨rfl, (Below.refl _ _).alloc (Nat.le_refl _) _⟩

set_option maxHeartbeats 400000 in
theorem toEntry_any (e : Ent) (w : World) :
    Calls Try.prog 31 #[entV e] w fun x w' => x = .returned (entV e) ∧ Below w.heap.size w w' := by
  unfold entV
  go_enter Try.func31, Try.ntmps31
  go_wp2
  refine bodyPost_ret (v := .agg #[.string e.path, .int .i64 e.rule, .int .i64 e.start, .int .i64 e.stop]) (by simp [results, Try.results31, go_sem]) rfl ⟨rfl, ?_⟩
  exact (by repeat (first | exact Below.refl _ _ | assumption | refine Below.alloc ?_ (by first | omega | (simp <;> omega)) _ | refine Below.setCell ?_ (by first | omega | (simp <;> omega)) _ | refine Below.drew ?_ | refine below_drewN ?_ _))

def entB (a b : Ent) : Bool := a.path.toList == b.path.toList && (a.rule == b.rule && (a.start == b.start && a.stop == b.stop))
set_option maxHeartbeats 400000 in
theorem eqEntry_any (a b : Ent) (w : World) :
    Calls Try.prog 35 #[entV a, entV b] w fun x w' => x = .returned (.bool (entB a b)) ∧ Below w.heap.size w w' := by
  unfold entV
  by_cases h1 : (a.path.toList == b.path.toList) = true
  · by_cases h2 : (a.rule == b.rule) = true
    · by_cases h3 : (a.start == b.start) = true
      · by_cases h4 : (a.stop == b.stop) = true
        · have H := Lib.hid (show entB a b = true by simp only [entB, h1, h2, h3, h4]; rfl)
          go_enter Try.func35, Try.ntmps35
          go_wp2
          go_ret
          exact ⟨ret_bool H.out.symm, (by repeat (first | exact Below.refl _ _ | assumption | refine Below.alloc ?_ (by first | omega | (simp <;> omega)) _ | refine Below.setCell ?_ (by first | omega | (simp <;> omega)) _ | refine Below.drew ?_ | refine below_drewN ?_ _))⟩
        · rw [Bool.not_eq_true] at h4
          have H := Lib.hid (show entB a b = false by simp only [entB, h1, h2, h3, h4]; rfl)
          go_enter Try.func35, Try.ntmps35
          go_wp2
          go_ret
          exact ⟨ret_bool H.out.symm, (by repeat (first | exact Below.refl _ _ | assumption | refine Below.alloc ?_ (by first | omega | (simp <;> omega)) _ | refine Below.setCell ?_ (by first | omega | (simp <;> omega)) _ | refine Below.drew ?_ | refine below_drewN ?_ _))⟩
      · rw [Bool.not_eq_true] at h3
        have H := Lib.hid (show entB a b = false by simp only [entB, h1, h2, h3]; rfl)
        go_enter Try.func35, Try.ntmps35
        go_wp2
        go_ret
        exact ⟨ret_bool H.out.symm, (by repeat (first | exact Below.refl _ _ | assumption | refine Below.alloc ?_ (by first | omega | (simp <;> omega)) _ | refine Below.setCell ?_ (by first | omega | (simp <;> omega)) _ | refine Below.drew ?_ | refine below_drewN ?_ _))⟩
    · rw [Bool.not_eq_true] at h2
      have H := Lib.hid (show entB a b = false by simp only [entB, h1, h2]; rfl)
      go_enter Try.func35, Try.ntmps35
      go_wp2
      go_ret
      exact ⟨ret_bool H.out.symm, (by repeat (first | exact Below.refl _ _ | assumption | refine Below.alloc ?_ (by first | omega | (simp <;> omega)) _ | refine Below.setCell ?_ (by first | omega | (simp <;> omega)) _ | refine Below.drew ?_ | refine below_drewN ?_ _))⟩
  · rw [Bool.not_eq_true] at h1
    have H := Lib.hid (show entB a b = false by simp only [entB, h1]; rfl)
    go_enter Try.func35, Try.ntmps35
    go_wp2
    go_ret
    exact ⟨ret_bool H.out.symm, (by repeat (first | exact Below.refl _ _ | assumption | refine Below.alloc ?_ (by first | omega | (simp <;> omega)) _ | refine Below.setCell ?_ (by first | omega | (simp <;> omega)) _ | refine Below.drew ?_ | refine below_drewN ?_ _))⟩

theorem entB_self (a : Ent) : entB a a = true := by simp [entB]
theorem eqEntry_same (a : Ent) (w : World) :
    Calls Try.prog 35 #[entV a, entV a] w fun x w' => x = .returned (.bool true) ∧ Below w.heap.size w w' := by
  have := eqEntry_any a a w
  rw [entB_self] at this
  exact this
theorem Try.info_entry : (Try.prog.info? 47).map (fun i => (i.zero, i.size, i.bytes)) = some (some (.agg #[.string ⟨#[]⟩, .int .i64 0, .int .i64 0, .int .i64 0]), 4, 40) := by kernel_rfl

end Go.Proofs.Ytnbemdcdokhknaa
