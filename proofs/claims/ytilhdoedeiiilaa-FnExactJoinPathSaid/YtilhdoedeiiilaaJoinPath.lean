/- The walk of the law FnExactJoinPath. Every slice of strings. -/
import Derived.Test.YtilhdoedeiiilaaStrs
namespace Go.Proofs.Ytilhdoedeiiilaa.FnExactJoinPath
open Go.RowKit
set_option maxHeartbeats 1000000 in
theorem walk (v : Value) (l : List ByteArray) (w : World) (h : SlS w w.heap.size v l) (hok : ∀ s ∈ l, s.size ≤ maxLen) :
    Calls Try.prog 7 #[v] w fun e w' => e = .returned (.bool true) ∧ Below w.heap.size w w' := by
  go_enter Try.func7, Try.ntmps7
  go_wp2_with fail
  refine (szStringS_any v l _ 1048576 _ h hok (by omega) (by omega)).mono ?_
  rintro e w1 ⟨r, rfl, rfl, hr⟩
  rcases hr with rfl | ⟨hr0, hr1⟩
  · clear h hok
    go_wp2
    go_ret
    exact ⟨rfl, Below.refl _ _⟩
  have hl : l.length + total l ≤ 1048576 := by omega
  have hl2 : l.length ≤ 1048576 := by omega
  clear hr1
  go_wp2_with fail
  refine (toStringS_any v l _ _ h (Nat.le_refl _) hl2).mono ?_
  rintro e w2 ⟨v2, rfl, own2, b2⟩
  go_wp2_with fail
  refine (specJoinPath_any v2 l _ _ (own_strs own2) (by omega)).mono ?_
  rintro e w3 ⟨rfl, rfl⟩
  go_wp2_with fail
  refine (toStringS_any v l _ _ (h.below b2) b2.size hl2).mono ?_
  rintro e w4 ⟨v4, rfl, own4, bel4⟩
  have b4 := below_step bel4 b2
  go_wp2_with fail
  refine (implJoinPath_any v4 l _ _ (own_strs own4) (by omega)).mono ?_
  rintro e w5 ⟨rfl, rfl⟩
  go_wp2_with fail
  refine (toStringS_any v l _ _ (h.below b4) b4.size hl2).mono ?_
  rintro e w6 ⟨v6, rfl, own6, bel6⟩
  have b6 := below_step bel6 b4
  go_wp2_with fail
  refine (eqStringS_any v4 v6 l l _ _ _ (own_strs (own_below own4 bel6 (Nat.le_refl _))) (own_strs own6)).mono ?_
  rintro e w7 ⟨rfl, n7, rfl⟩
  have HB := Lib.hid (below_drewN b6 n7)
  rw [decide_eq_true rfl]
  clear b6 bel6 b4 bel4 b2 own2 own4 own6 h hok
  go_wp2
  go_ret
  exact ⟨rfl, HB.out⟩
end Go.Proofs.Ytilhdoedeiiilaa.FnExactJoinPath
