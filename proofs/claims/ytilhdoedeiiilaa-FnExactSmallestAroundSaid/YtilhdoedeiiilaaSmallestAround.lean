/- The walk of the law FnExactSmallestAround. Every slice of entries. -/
import Derived.Test.YtilhdoedeiiilaaSearch2
import Derived.Test.YtilhdoedeiiilaaEntryS
namespace Go.Proofs.Ytilhdoedeiiilaa.FnExactSmallestAround
open Go.RowKit
set_option maxHeartbeats 1000000 in
theorem walk (v : Value) (l : List Ent) (x : Int) (y : Int) (w : World) (h : SlE w w.heap.size v l) (hok : ∀ e ∈ l, e.ok) (hx : -9223372036854775808 ≤ x ∧ x ≤ 9223372036854775807) (hy : -9223372036854775808 ≤ y ∧ y ≤ 9223372036854775807) :
    Calls Try.prog 12 #[v, .int .i64 x, .int .i64 y] w fun e w' => e = .returned (.bool true) ∧ Below w.heap.size w w' := by
  go_enter Try.func12, Try.ntmps12
  go_wp2_with fail
  refine (szEntryS_any v l _ 1048576 _ h (Nat.le_refl _) (fun e he => (hok e he).1) (by omega) (by omega)).mono ?_
  rintro e w1 ⟨r, rfl, bel1, hr⟩
  rcases hr with rfl | ⟨hr0, hr1, hlen, _⟩
  · have HB := Lib.hid bel1
    clear bel1 h hok
    go_wp2
    go_ret
    exact ⟨rfl, HB.out⟩
  have hl : l.length ≤ 1048576 := by omega
  clear hlen
  have h1 := h.below bel1
  go_wp2_with fail
  refine (toEntryS_any v l _ _ h1 bel1.size hl).mono ?_
  rintro e w2 ⟨v2, rfl, own2, bel2⟩
  have b2 := below_step bel2 bel1
  have h2 := h.below b2
  go_wp2_with fail
  refine (quiet_below (specSmallestAround_any v2 l x y _ _ (Sl.of_own own2) hok hx hy)).mono ?_
  rintro e w3 ⟨rfl, bel3⟩
  have b3 := below_step bel3 b2
  have h3 := h.below b3
  go_wp2_with fail
  refine (toEntryS_any v l _ _ h3 b3.size hl).mono ?_
  rintro e w4 ⟨v4, rfl, own4, bel4⟩
  have b4 := below_step bel4 b3
  have h4 := h.below b4
  go_wp2_with fail
  refine (implSmallestAround_any v4 l x y _ _ (Sl.of_own own4) (Nat.le_refl _) hok hx hy).mono ?_
  rintro e w5 ⟨rfl, bel5⟩
  have b5 := below_step bel5 b4
  have h5 := h.below b5
  have own5 := own_below own4 bel5 (Nat.le_refl _)
  go_wp2_with fail
  refine (toEntryS_any v l _ _ h5 b5.size hl).mono ?_
  rintro e w6 ⟨v6, rfl, own6, bel6⟩
  have b6 := below_step bel6 b5
  have own6' := own_below own5 bel6 (Nat.le_refl _)
  go_wp2_with fail
  refine (eqEntryS_any v4 v6 l l _ _ _ (Sl.of_own own6') (Sl.of_own own6) (Nat.le_refl _) (Nat.le_refl _) rfl).mono ?_
  rintro e w7 ⟨rfl, bel7⟩
  have HB := Lib.hid (below_step bel7 b6)
  clear bel7 b6 bel6 b5 bel5 b4 bel4 b3 bel3 b2 bel2 bel1 own2 own4 own5 own6 own6' h h1 h2 h3 h4 h5 hok
  go_wp2
  go_ret
  exact ⟨rfl, HB.out⟩
end Go.Proofs.Ytilhdoedeiiilaa.FnExactSmallestAround
