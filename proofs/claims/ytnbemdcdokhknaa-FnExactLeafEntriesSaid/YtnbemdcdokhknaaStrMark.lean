/- The marks on texts: markStringS, heldStringS. Conditions: the row is owned; the marks fit an int. -/
import Derived.Test.YtnbemdcdokhknaaMText
import Derived.Test.YtnbemdcdokhknaaOwnS
import Derived.WalkSpells
import Derived.WalkLawsBesides
import Derived.Deep.RegionHeld3
namespace Go.Proofs.Ytnbemdcdokhknaa
set_option linter.unusedSimpArgs false
set_option linter.unusedVariables false
open Go.RowKit
def strMarks (k n : Nat) : List ByteArray := (List.range n).map fun i => mtext (k + i)
@[simp] theorem strMarks_length (k n : Nat) : (strMarks k n).length = n := by simp [strMarks]
theorem strMarks_at (k n i : Nat) (h : i < n) : (strMarks k n)[i]'(by simpa using h) = mtext (k + i) := by simp [strMarks]
theorem strMarks_succ (k n : Nat) : strMarks k (n + 1) = strMarks k n ++ [mtext (k + n)] := by simp [strMarks, List.range_succ]
set_option maxHeartbeats 1000000 in
set_option maxRecDepth 100000 in
theorem markStringS_any (v : Value) (n : Nat) (xs : List Value) (k base : Nat) (w : World) (h : w.ownsRow base 9 1 v n xs) (h1 : 1 ≤ k) (hk : k + n ≤ 4611686018427387000) :
    Calls Try.prog 50 #[v, .int .i64 k] w (Marked w base 9 1 v n ((strMarks k n).map .string) ((k : Int) + n)) := by
  have hlen : xs.length = n * 1 := h.1
  rcases h.2 with ⟨rfl, rfl⟩ | ⟨g, cap, cur, rfl, hb, hg, hc, hm, hs, ht⟩
  · go_enter Try.func50, Try.ntmps50
    go_wp2
    go_loop [1, 5] (fun q i => i = .int .i64 0 ∧ q = .int .i64 k) (fun _ i => (intOf i).toNat)
    case atStart => exact ⟨rfl, rfl⟩
    case round =>
      obtain ⟨rfl, rfl⟩ := hrel
      go_wp2
      go_ret
      exact ⟨ret_int (by simp), World.ownsRow_nil _ _ _ _, World.grownBy.refl _ _⟩
  · unfold maxLen at hm
    clear hg hs ht hb cur
    go_enter Try.func50, Try.ntmps50
    go_wp2
    go_loopw [1, 5] (fun q i wr => ∃ j : Nat, j ≤ n ∧ i = .int .i64 j ∧ q = .int .i64 ((k : Int) + j) ∧ (∃ ys, wr.ownsRow base 9 1 (.slice (some ⟨g, 0, none⟩) n cap) n ((strMarks k j).map .string ++ ys)) ∧ w.grownBy wr (some g)) (fun _ i _ => n - (intOf i).toNat)
    case atStart => exact ⟨0, Nat.zero_le _, rfl, by go_num, ⟨xs, h⟩, World.grownBy.refl _ _⟩
    case round =>
      obtain ⟨j, hj, rfl, rfl, ⟨ys, hown⟩, hgr⟩ := hrel
      by_cases hlt : j < n
      · go_wp2_with fail
        refine (markText_at _ (k + j) (by omega) _ (by omega) (by omega)).mono ?_
        rintro e w2 ⟨rfl, hb1⟩
        have hown2 := own_below hown hb1 (Nat.le_refl _)
        have hg2 : w.grownBy w2 (some g) := grownBy_trans hgr ⟨hb1.os, hb1.tape, hb1.output, hb1.size, fun i hi hne => hb1.block i hi⟩
        clear hown hgr hb1 h
        have hf0 := hown2.frozenAt j
        have hold : ∃ u, w2.cell? ⟨g, j, none⟩ = some u := by
          rw [hown2.cellAt j (by omega)]
          exact ⟨_, List.getElem?_eq_getElem (by rw [hown2.1]; omega)⟩
        obtain ⟨u0, hu0⟩ := hold
        have hys : 1 ≤ ys.length := by
          have := hown2.1
          rw [List.length_append, List.length_map, strMarks_length] at this
          omega
        have hp := own_putCells [.string (mtext (k + j))] _ _ ys (by simpa using hys) hown2
        rw [List.length_map, strMarks_length, ← show (strMarks k (j + 1)).map Value.string = (strMarks k j).map Value.string ++ [.string (mtext (k + j))] by rw [strMarks_succ]; simp] at hp
        have hpb := grownBy_trans hg2 (grownBy_putCells (g := g) [.string (mtext (k + j))] w2 j)
        have HP := Lib.hid (And.intro hp hpb)
        clear hp hpb hys hown2 hg2
        go_wp2
        go_roundw
        case rel => exact ⟨j + 1, by omega, by go_num, by go_num, ⟨_, HP.out.1⟩, HP.out.2⟩
        case measure => simp [intOf]; omega
      · have hjn : j = n := by omega
        subst hjn
        have hys : ys = [] := by
          have := hown.1
          rw [List.length_append, List.length_map, strMarks_length] at this
          exact List.eq_nil_of_length_eq_zero (by omega)
        rw [hys, List.append_nil] at hown
        have H := Lib.hid (And.intro hown hgr)
        clear hown hgr h hlen hys
        go_wp2
        go_ret
        exact ⟨rfl, H.out.1, H.out.2⟩
def MkS (n : Nat) (lo hi : Nat) (w : World) (v : Value) (k r : Int) : Prop := ∃ j : Nat, 1 ≤ j ∧ k = j ∧ r = k + n ∧ n ≤ 4194304 ∧ j ≤ 1125899906842624 ∧ Row lo hi 9 1 n ((strMarks j n).map .string) w v
theorem MkS.keep {n : Nat} {lo hi lo' hi' : Nat} {w w' : World} {v : Value} {k r : Int} (h : MkS n lo hi w v k r) (ho : Out lo' hi' w w') (hd : hi ≤ lo' ∨ hi' ≤ lo) : MkS n lo hi w' v k r := by
  obtain ⟨j, h1, h2, h3, h4, h5, h6⟩ := h
  exact ⟨j, h1, h2, h3, h4, h5, h6.keep ho hd⟩
theorem markS_law {w : World} {v : Value} {l : List ByteArray} {lo hi : Nat} (h : OwS l lo hi w v) (k : Int) (h1 : 1 ≤ k) (h2 : k ≤ 1125899906842624) (hl : l.length ≤ 4194304) :
    Calls Try.prog 50 #[v, .int .i64 k] w (Marks (MkS l.length) lo hi v k w) := by
  obtain ⟨j, rfl⟩ := Int.eq_ofNat_of_zero_le (show 0 ≤ k by omega)
  refine (markStringS_any v l.length (l.map .string) j lo w h.1 (by omega) (by omega)).mono ?_
  rintro e w' ⟨rfl, ho, hg⟩
  exact ⟨_, rfl, by omega, by omega, ⟨j, by omega, rfl, rfl, hl, by omega, ho, h.2⟩, Out.of_grown hg fun g hk => ⟨(ho.lt g hk).1, h.2 g hk⟩⟩
end Go.Proofs.Ytnbemdcdokhknaa
