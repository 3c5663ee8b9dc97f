/- The marks on entries: markText, markEntryS, heldEntryS. Conditions: the row is owned; the marks fit an int. -/
import Derived.Test.YtnbemdcdokhknaaRows
import Derived.Test.YtnbemdcdokhknaaEntryS
import Derived.Test.YtnbemdcdokhknaaMText
import Derived.Test.YtnbemdcdokhknaaInts
import Derived.WalkSpells
import Derived.WalkLawsBesides
import Derived.BigQuiet
import Derived.Deep.QuietTactic
import Derived.Deep.RegionHeld3
namespace Go.Proofs.Ytnbemdcdokhknaa
set_option linter.unusedSimpArgs false
set_option linter.unusedVariables false
open Go.RowKit

/-- The marks on n entries from k on. -/
def entMark (k : Nat) : Ent := ⟨mtext k, (k + 1 : Nat), (k + 2 : Nat), (k + 3 : Nat)⟩
def entMarks (k n : Nat) : List Ent := (List.range n).map fun i => entMark (k + 4 * i)
@[simp] theorem entMarks_length (k n : Nat) : (entMarks k n).length = n := by simp [entMarks]
theorem entMarks_at (k n i : Nat) (h : i < n) : (entMarks k n)[i]'(by simpa using h) = entMark (k + 4 * i) := by simp [entMarks]
theorem entMarks_succ (k n : Nat) : entMarks k (n + 1) = entMarks k n ++ [entMark (k + 4 * n)] := by simp [entMarks, List.range_succ]
theorem entsCells_app (a b : List Ent) : entsCells (a ++ b) = entsCells a ++ entsCells b := by simp [entsCells]

set_option maxHeartbeats 1000000 in
set_option maxRecDepth 100000 in
theorem markEntryS_any (v : Value) (n : Nat) (xs : List Value) (k base : Nat) (w : World) (h : w.ownsRow base 47 4 v n xs) (h1 : 1 ≤ k) (hk : k + 4 * n ≤ 4611686018427387000) :
    Calls Try.prog 17 #[v, .int .i64 k] w (Marked w base 47 4 v n (entsCells (entMarks k n)) ((k : Int) + 4 * n)) := by
  have hlen : xs.length = n * 4 := h.1
  rcases h.2 with ⟨rfl, rfl⟩ | ⟨g, cap, cur, rfl, hb, hg, hc, hm, hs, ht⟩
  · go_enter Try.func17, Try.ntmps17
    go_wp2
    go_loop [1, 5] (fun q i => i = .int .i64 0 ∧ q = .int .i64 k) (fun _ i => (intOf i).toNat)
    case atStart => exact ⟨rfl, rfl⟩
    case round =>
      obtain ⟨rfl, rfl⟩ := hrel
      go_wp2
      go_ret
      exact ⟨ret_int (by simp), World.ownsRow_nil _ _ _ _, World.grownBy.refl _ _⟩
  · unfold maxLen at hm
    clear hg hs ht hb cur
    go_enter Try.func17, Try.ntmps17
    go_wp2
    go_loopw [1, 5] (fun q i wr => ∃ j : Nat, j ≤ n ∧ i = .int .i64 j ∧ q = .int .i64 ((k : Int) + 4 * j) ∧ (∃ ys, wr.ownsRow base 47 4 (.slice (some ⟨g, 0, none⟩) n cap) n (entsCells (entMarks k j) ++ ys)) ∧ w.grownBy wr (some g)) (fun _ i _ => n - (intOf i).toNat)
    case atStart => exact ⟨0, Nat.zero_le _, rfl, by go_num, ⟨xs, h⟩, World.grownBy.refl _ _⟩
    case round =>
      obtain ⟨j, hj, rfl, rfl, ⟨ys, hown⟩, hgr⟩ := hrel
      by_cases hlt : j < n
      · go_wp2_with fail
        refine (markText_at _ (k + 4 * j) (by omega) _ (by omega) (by omega)).mono ?_
        rintro e w2 ⟨rfl, hb1⟩
        have hown2 := own_below hown hb1 (Nat.le_refl _)
        have hg2 : w.grownBy w2 (some g) := grownBy_trans hgr ⟨hb1.os, hb1.tape, hb1.output, hb1.size, fun i hi hne => hb1.block i hi⟩
        clear hown hgr hb1 h
        have hf0 := hown2.frozenAt (j * 4)
        have hf1 := hown2.frozenAt (j * 4 + 1)
        have hf2 := hown2.frozenAt (j * 4 + 2)
        have hf3 := hown2.frozenAt (j * 4 + 3)
        have hold : ∀ i, i < 4 → ∃ u, w2.cell? ⟨g, j * 4 + i, none⟩ = some u := by
          intro i hi
          rw [hown2.cellAt (j * 4 + i) (by omega)]
          exact ⟨_, List.getElem?_eq_getElem (by rw [hown2.1]; omega)⟩
        obtain ⟨u0, hu0⟩ := hold 0 (by omega)
        obtain ⟨u1, hu1⟩ := hold 1 (by omega)
        obtain ⟨u2, hu2⟩ := hold 2 (by omega)
        obtain ⟨u3, hu3⟩ := hold 3 (by omega)
        rw [Nat.add_zero] at hu0
        clear hold
        have hys : 4 ≤ ys.length := by
          have := hown2.1
          rw [List.length_append, entsCells_length, entMarks_length] at this
          omega
        have hp := own_putCells (entCells (entMark (k + 4 * j))) _ _ ys (by simpa [entCells] using hys) hown2
        rw [entsCells_length, entMarks_length, ← show entsCells (entMarks k (j + 1)) = entsCells (entMarks k j) ++ entCells (entMark (k + 4 * j)) by rw [entMarks_succ, entsCells_app]; simp [entsCells]] at hp
        have hpb := grownBy_trans hg2 (grownBy_putCells (g := g) (entCells (entMark (k + 4 * j))) w2 (j * 4))
        have HP := Lib.hid (And.intro hp hpb)
        clear hp hpb hys hown2 hg2
        go_wp2
        go_roundw
        case rel => exact ⟨j + 1, by omega, by go_num, by go_num, ⟨_, HP.out.1⟩, HP.out.2⟩
        case measure => simp [intOf]; omega
      · have hjn : j = n := by omega
        subst hjn
        have hys : ys = [] := by
          have := hown.1
          rw [List.length_append, entsCells_length, entMarks_length] at this
          exact List.eq_nil_of_length_eq_zero (by omega)
        rw [hys, List.append_nil] at hown
        have H := Lib.hid (And.intro hown hgr)
        clear hown hgr h hlen hys
        go_wp2
        go_ret
        exact ⟨rfl, H.out.1, H.out.2⟩

set_option maxHeartbeats 1000000 in
set_option maxRecDepth 100000 in
theorem heldEntryS_any (v : Value) (n : Nat) (k B : Nat) (w : World) (h : SlE w B v (entMarks k n)) (hB : B ≤ w.heap.size) (h1 : 1 ≤ k) (hk : k + 4 * n ≤ 4611686018427387000) :
    Calls Try.prog 18 #[v, .int .i64 k] w fun e w' => e = .returned (.int .i64 ((k : Int) + 4 * n)) ∧ Below w.heap.size w w' := by
  obtain ⟨A, c, rfl, hc, hm, hcell⟩ := h.open_
  unfold maxLen at hm
  rw [entMarks_length] at *
  clear h
  go_enter Try.func18, Try.ntmps18
  go_wp2
  go_loopw [1, 5] (fun q i wr => ∃ j : Nat, j ≤ n ∧ i = .int .i64 j ∧ q = .int .i64 ((k : Int) + 4 * j) ∧ Below w.heap.size w wr) (fun _ i _ => n - (intOf i).toNat)
  case atStart => exact ⟨0, Nat.zero_le _, rfl, by go_num, Below.refl _ _⟩
  case round =>
    obtain ⟨j, hj, rfl, rfl, hb⟩ := hrel
    by_cases hlt : j < n
    · obtain ⟨b, off, rfl, hbB, hc0, hc1, hc2, hc3⟩ := hcell j (by simpa using hlt)
      rw [entMarks_at k n j hlt] at hc0 hc1 hc2 hc3
      have hd0 : wr.cell? ⟨b, off + j * 4, none⟩ = some (.string (mtext (k + 4 * j))) := (hb.cell (p := ⟨b, off + j * 4, none⟩) (by show b < _; omega)).trans hc0
      have hd1 : wr.cell? ⟨b, off + j * 4 + 1, none⟩ = some (.int .i64 ((k + 4 * j + 1 : Nat) : Int)) := (hb.cell (p := ⟨b, off + j * 4 + 1, none⟩) (by show b < _; omega)).trans hc1
      have hd2 : wr.cell? ⟨b, off + j * 4 + 2, none⟩ = some (.int .i64 ((k + 4 * j + 2 : Nat) : Int)) := (hb.cell (p := ⟨b, off + j * 4 + 2, none⟩) (by show b < _; omega)).trans hc2
      have hd3 : wr.cell? ⟨b, off + j * 4 + 3, none⟩ = some (.int .i64 ((k + 4 * j + 3 : Nat) : Int)) := (hb.cell (p := ⟨b, off + j * 4 + 3, none⟩) (by show b < _; omega)).trans hc3
      clear hcell hc0 hc1 hc2 hc3
      go_wp2_with fail
      go_region_held3 (fun w' => w'.cell? ⟨b, off + j * 4, none⟩ = some (.string (mtext (k + 4 * j))))
        (first | exact cell_later bel2 hd0 | exact hd0)
        (first | (go_at_call 38; refine (markText_at _ (k + 4 * j) (by omega) _ (by omega) (by omega)).mono ?_; rintro e w2 ⟨rfl, bel2⟩))
      have hb2 := below_step bel2 hb.drew
      have he1 := cell_later bel2 hd1
      have he2 := cell_later bel2 hd2
      have he3 := cell_later bel2 hd3
      have HB := Lib.hid hb2
      clear hb2 bel2 hb hd0 hd1 hd2 hd3
      go_wp2_with fail
      go_outline
      go_roundw
      case rel => exact ⟨j + 1, by omega, by go_num, by go_num, HB.out⟩
      case measure => simp [intOf]; omega
    · have HX := Lib.hid (show j = n by omega)
      clear hcell
      go_wp2_with fail
      go_ret
      exact ⟨ret_int (by rw [HX.out]), hb⟩
end Go.Proofs.Ytnbemdcdokhknaa
