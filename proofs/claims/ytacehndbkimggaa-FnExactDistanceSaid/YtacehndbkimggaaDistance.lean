/- The walk of the law FnExactDistance. No condition but those of its arguments. -/
import Derived.Test.YtacehndbkimggaaDistI
import Derived.Test.YtacehndbkimggaaOwnB
import Derived.Test.YtacehndbkimggaaNum
import Derived.WalkSpells
import Derived.WalkLawsBesides
import Derived.Deep.RegionHeld3
namespace Go.Proofs.Ytacehndbkimggaa.FnExactDistance
open Go.RowKit
set_option maxHeartbeats 2000000 in
set_option maxRecDepth 100000 in
theorem walk (v0 : Value) (l0 : List UInt8) (v1 : Value) (l1 : List UInt8) (w : World) (hA0 : SlB w w.heap.size v0 l0) (hA1 : SlB w w.heap.size v1 l1) :
    Calls Try.prog 7 #[v0, v1] w fun e w' => e = .returned (.bool true) ∧ Below w.heap.size w w' := by
  have hA0' := hA0.len
  obtain ⟨A0, cc0, rfl⟩ : ∃ A c, v0 = .slice A l0.length c := by obtain ⟨A, c, h, _⟩ := hA0.open_; exact ⟨A, c, h⟩
  by_cases big0 : 1048576 < (l0.length : Int)
  · clear hA0 hA1
    go_enter Try.func7, Try.ntmps7
    go_wp2
    go_ret
    exact ⟨rfl, Below.refl _ _⟩
  have hl0 : l0.length ≤ 1048576 := by omega
  clear big0
  have hA1' := hA1.len
  obtain ⟨A1, cc1, rfl⟩ : ∃ A c, v1 = .slice A l1.length c := by obtain ⟨A, c, h, _⟩ := hA1.open_; exact ⟨A, c, h⟩
  by_cases big1 : 1048576 < (l1.length : Int)
  · clear hA0 hA1
    go_enter Try.func7, Try.ntmps7
    go_wp2
    go_ret
    exact ⟨rfl, Below.refl _ _⟩
  have hl1 : l1.length ≤ 1048576 := by omega
  clear big1
  go_enter Try.func7, Try.ntmps7
  go_wp2_with fail
  have p1 : w.heap.size ≤ w.heap.size := (Below.refl w.heap.size w).size
  refine (toB_law hA0 (Below.refl w.heap.size w) (by omega)).mono ?_
  rintro e W1 ⟨t0, rfl, own_t0, bel1⟩
  have b1 := below_step bel1 (Below.refl w.heap.size w)
  have s1 := bel1.size
  go_wp2_with fail
  have p2 : w.heap.size ≤ W1.heap.size := b1.size
  refine (toB_law hA1 b1 (by omega)).mono ?_
  rintro e W2 ⟨t1, rfl, own_t1, bel2⟩
  have b2 := below_step bel2 b1
  have s2 := bel2.size
  have own_t0 := own_t0.keep (Out.of_below bel2 W1.heap.size W1.heap.size) (by omega)
  go_wp2_with fail
  refine (specDist_any t0 t1 l0 l1 _ _ own_t0.sl own_t1.sl (Nat.le_refl _) (by omega) (by omega)).mono ?_
  rintro e W3 ⟨rfl, bel3⟩
  have b3 := below_step bel3 b2
  have s3 := bel3.size
  have own_t0 := own_t0.keep (Out.of_below bel3 W2.heap.size W2.heap.size) (by omega)
  have own_t1 := own_t1.keep (Out.of_below bel3 W2.heap.size W2.heap.size) (by omega)
  clear own_t0
  clear own_t1
  go_wp2_with fail
  have p4 : w.heap.size ≤ W3.heap.size := b3.size
  refine (toB_law hA0 b3 (by omega)).mono ?_
  rintro e W4 ⟨x0, rfl, own_x0, bel4⟩
  have b4 := below_step bel4 b3
  have s4 := bel4.size
  go_wp2_with fail
  have p5 : w.heap.size ≤ W4.heap.size := b4.size
  refine (toB_law hA1 b4 (by omega)).mono ?_
  rintro e W5 ⟨x1, rfl, own_x1, bel5⟩
  have b5 := below_step bel5 b4
  have s5 := bel5.size
  have own_x0 := own_x0.keep (Out.of_below bel5 W4.heap.size W4.heap.size) (by omega)
  go_wp2_with fail
  refine (implDist_any x0 x1 l0 l1 _ _ own_x0.sl own_x1.sl (Nat.le_refl _) (by omega) (by omega)).mono ?_
  rintro e W6 ⟨rfl, bel6⟩
  have b6 := below_step bel6 b5
  have s6 := bel6.size
  have own_x0 := own_x0.keep (Out.of_below bel6 W5.heap.size W5.heap.size) (by omega)
  have own_x1 := own_x1.keep (Out.of_below bel6 W5.heap.size W5.heap.size) (by omega)
  go_wp2_with fail
  have p7 : w.heap.size ≤ W6.heap.size := b6.size
  refine (toB_law hA0 b6 (by omega)).mono ?_
  rintro e W7 ⟨t2, rfl, own_t2, bel7⟩
  have b7 := below_step bel7 b6
  have s7 := bel7.size
  have own_x0 := own_x0.keep (Out.of_below bel7 W6.heap.size W6.heap.size) (by omega)
  have own_x1 := own_x1.keep (Out.of_below bel7 W6.heap.size W6.heap.size) (by omega)
  go_wp2_with fail
  refine (eqB_law own_x0 own_t2).mono ?_
  rintro e W8 ⟨rfl, bel8⟩
  have b8 := below_step bel8 b7
  have s8 := bel8.size
  have own_x0 := own_x0.keep (Out.of_below bel8 W7.heap.size W7.heap.size) (by omega)
  have own_x1 := own_x1.keep (Out.of_below bel8 W7.heap.size W7.heap.size) (by omega)
  have own_t2 := own_t2.keep (Out.of_below bel8 W7.heap.size W7.heap.size) (by omega)
  clear own_t2
  go_wp2_with fail
  have p9 : w.heap.size ≤ W8.heap.size := b8.size
  refine (toB_law hA1 b8 (by omega)).mono ?_
  rintro e W9 ⟨t3, rfl, own_t3, bel9⟩
  have b9 := below_step bel9 b8
  have s9 := bel9.size
  have own_x0 := own_x0.keep (Out.of_below bel9 W8.heap.size W8.heap.size) (by omega)
  have own_x1 := own_x1.keep (Out.of_below bel9 W8.heap.size W8.heap.size) (by omega)
  go_wp2_with fail
  refine (eqB_law own_x1 own_t3).mono ?_
  rintro e W10 ⟨rfl, bel10⟩
  have b10 := below_step bel10 b9
  have s10 := bel10.size
  have own_x0 := own_x0.keep (Out.of_below bel10 W9.heap.size W9.heap.size) (by omega)
  have own_x1 := own_x1.keep (Out.of_below bel10 W9.heap.size W9.heap.size) (by omega)
  have own_t3 := own_t3.keep (Out.of_below bel10 W9.heap.size W9.heap.size) (by omega)
  clear own_t3
  have HB := Lib.hid b10
  clear own_x0 own_x1 hA0 hA1
  go_wp2
  go_ret
  exact ⟨rfl, HB.out⟩
end Go.Proofs.Ytacehndbkimggaa.FnExactDistance
