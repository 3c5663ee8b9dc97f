/- The walk of the law FnExactMatchPath. No condition but those of its arguments. -/
import Derived.Test.YtglminmoglncpaaPatSI
import Derived.WalkSpells
import Derived.WalkLawsBesides
import Derived.Deep.RegionHeld3
import Derived.Deep.DeepCutAuto
namespace Go.Proofs.Ytglminmoglncpaa.FnExactMatchPath
open Go.RowKit
set_option maxHeartbeats 2000000 in
set_option maxRecDepth 100000 in
theorem walk (a0 : ByteArray) (a1 : ByteArray) (w : World) (hA0 : a0.size ≤ maxLen) (hA1 : a1.size ≤ maxLen) :
    Calls Try.prog 5 #[.string a0, .string a1] w fun e w' => e = .returned (.bool true) ∧ Below w.heap.size w w' := by
  have hA0' := hA0
  unfold maxLen at hA0'
  by_cases big0 : 1048576 < (a0.size : Int)
  · clear hA0 hA1
    go_enter Try.func5, Try.ntmps5
    go_wp2
    go_ret
    exact ⟨rfl, (by repeat (first | exact Below.refl _ _ | assumption | refine Below.alloc ?_ (by first | omega | (simp <;> omega)) _ | refine Below.setCell ?_ (by first | omega | (simp <;> omega)) _ | refine Below.drew ?_ | refine below_drewN ?_ _))⟩
  have hl0 : a0.size ≤ 1048576 := by omega
  clear big0
  have hA1' := hA1
  unfold maxLen at hA1'
  by_cases big1 : 1048576 < (a1.size : Int)
  · clear hA0 hA1
    go_enter Try.func5, Try.ntmps5
    go_wp2
    go_ret
    exact ⟨rfl, (by repeat (first | exact Below.refl _ _ | assumption | refine Below.alloc ?_ (by first | omega | (simp <;> omega)) _ | refine Below.setCell ?_ (by first | omega | (simp <;> omega)) _ | refine Below.drew ?_ | refine below_drewN ?_ _))⟩
  have hl1 : a1.size ≤ 1048576 := by omega
  clear big1
  go_enter Try.func5, Try.ntmps5
  go_wp2_with fail
  refine (specMatchPath_any a0 a1 _ (by omega) (by omega)).mono ?_
  rintro e W1 ⟨rfl, bel1⟩
  have b1 := below_step bel1 (Below.refl w.heap.size w)
  have s1 := bel1.size
  go_wp2_with fail
  refine (implMatchPath_any a0 a1 _ (by omega) (by omega)).mono ?_
  rintro e W2 ⟨rfl, bel2⟩
  have b2 := below_step bel2 b1
  have s2 := bel2.size
  have HB := Lib.hid b2
  clear  hA0 hA1
  go_wp2
  go_ret
  exact ⟨rfl, HB.out⟩
end Go.Proofs.Ytglminmoglncpaa.FnExactMatchPath
