/- The walk of the law FnExactCommonEntries. No condition but those of its arguments. -/
import Derived.Test.YtjbildcomjdpjaaCommonI
import Derived.Test.YtjbildcomjdpjaaOwnE
import Derived.Test.YtjbildcomjdpjaaOpenEntry
import Derived.WalkSpells
import Derived.WalkLawsBesides
import Derived.Deep.RegionHeld3
import Derived.Deep.DeepCutAuto
namespace Go.Proofs.Ytjbildcomjdpjaa
open Go.RowKit
theorem specCommon_law {w : World} {v v' : Value} {l l' : List Ent} {lo hi lo' hi' : Nat} (h : OwE l lo hi w v) (h' : OwE l' lo' hi' w v') (hl : l.length ≤ 1048576) (hl' : l'.length ≤ 1048576) : Calls Try.prog 24 #[v, v'] w fun e w' => e = .returned (.int .i64 (comN l l' : Nat)) ∧ Below w.heap.size w w' :=
  quiet_below (specCommon_any v v' l l' _ _ w h.sl h'.sl (by omega) (by omega))
theorem implCommon_law {w : World} {v v' : Value} {l l' : List Ent} {lo hi lo' hi' : Nat} (h : OwE l lo hi w v) (h' : OwE l' lo' hi' w v') (hl : l.length ≤ 1048576) (hl' : l'.length ≤ 1048576) (ok : ∀ e ∈ l, e.ok) (ok' : ∀ e ∈ l', e.ok) : Calls Try.prog 25 #[v, v'] w fun e w' => e = .returned (.int .i64 (comN l l' : Nat)) ∧ Below w.heap.size w w' :=
  implCommon_any v v' l l' _ w h.sl h'.sl (Nat.le_refl _) (by omega) (by omega) ok ok'
end Go.Proofs.Ytjbildcomjdpjaa
namespace Go.Proofs.Ytjbildcomjdpjaa.FnExactCommonEntries
open Go.RowKit
set_option maxHeartbeats 2000000 in
set_option maxRecDepth 100000 in
theorem walk (v0 : Value) (l0 : List Ent) (v1 : Value) (l1 : List Ent) (w : World) (hA0 : SlE w w.heap.size v0 l0) (ok0 : ∀ e ∈ l0, e.ok) (hA1 : SlE w w.heap.size v1 l1) (ok1 : ∀ e ∈ l1, e.ok) :
    Calls Try.prog 6 #[v0, v1] w fun e w' => e = .returned (.bool true) ∧ Below w.heap.size w w' := by
  go_enter Try.func6, Try.ntmps6
  go_wp2_with fail
  refine (szE_law hA0 (Below.refl w.heap.size w) ok0 1048576 (by omega) (by omega)).mono ?_
  rintro e W1 ⟨z1, rfl, bel1, hr1⟩
  have b1 := below_step bel1 (Below.refl w.heap.size w)
  have s1 := bel1.size
  rcases hr1 with rfl | ⟨q1, y1, hl0, all0⟩
  · have HB := Lib.hid b1
    clear hA0 ok0 hA1 ok1
    go_wp2
    go_ret
    exact ⟨rfl, HB.out⟩
  have HS0 := Lib.hid all0
  clear all0
  go_wp2_with fail
  refine (szE_law hA1 b1 ok1 z1 q1 (by omega)).mono ?_
  rintro e W2 ⟨z2, rfl, bel2, hr2⟩
  have b2 := below_step bel2 b1
  have s2 := bel2.size
  rcases hr2 with rfl | ⟨q2, y2, hl1, all1⟩
  · have HB := Lib.hid b2
    clear hA0 ok0 hA1 ok1
    go_wp2
    go_ret
    exact ⟨rfl, HB.out⟩
  have HS1 := Lib.hid all1
  clear all1
  go_wp2_with fail
  have p3 : w.heap.size ≤ W2.heap.size := b2.size
  refine (toE_law hA0 b2 (by omega)).mono ?_
  rintro e W3 ⟨t0, rfl, own_t0, bel3⟩
  have b3 := below_step bel3 b2
  have s3 := bel3.size
  go_wp2_with fail
  have p4 : w.heap.size ≤ W3.heap.size := b3.size
  refine (toE_law hA1 b3 (by omega)).mono ?_
  rintro e W4 ⟨t1, rfl, own_t1, bel4⟩
  have b4 := below_step bel4 b3
  have s4 := bel4.size
  have own_t0 := own_t0.keep (Out.of_below bel4 W3.heap.size W3.heap.size) (by omega)
  go_wp2_with fail
  refine (specCommon_law own_t0 own_t1 hl0 hl1).mono ?_
  rintro e W5 ⟨rfl, bel5⟩
  have b5 := below_step bel5 b4
  have s5 := bel5.size
  have own_t0 := own_t0.keep (Out.of_below bel5 W4.heap.size W4.heap.size) (by omega)
  have own_t1 := own_t1.keep (Out.of_below bel5 W4.heap.size W4.heap.size) (by omega)
  clear own_t0
  clear own_t1
  go_wp2_with fail
  have p6 : w.heap.size ≤ W5.heap.size := b5.size
  refine (toE_law hA0 b5 (by omega)).mono ?_
  rintro e W6 ⟨x0, rfl, own_x0, bel6⟩
  have b6 := below_step bel6 b5
  have s6 := bel6.size
  go_wp2_with fail
  have p7 : w.heap.size ≤ W6.heap.size := b6.size
  refine (toE_law hA1 b6 (by omega)).mono ?_
  rintro e W7 ⟨x1, rfl, own_x1, bel7⟩
  have b7 := below_step bel7 b6
  have s7 := bel7.size
  have own_x0 := own_x0.keep (Out.of_below bel7 W6.heap.size W6.heap.size) (by omega)
  go_wp2_with fail
  refine (implCommon_law own_x0 own_x1 hl0 hl1 ok0 ok1).mono ?_
  rintro e W8 ⟨rfl, bel8⟩
  have b8 := below_step bel8 b7
  have s8 := bel8.size
  have own_x0 := own_x0.keep (Out.of_below bel8 W7.heap.size W7.heap.size) (by omega)
  have own_x1 := own_x1.keep (Out.of_below bel8 W7.heap.size W7.heap.size) (by omega)
  go_wp2_with fail
  have p9 : w.heap.size ≤ W8.heap.size := b8.size
  refine (toE_law hA0 b8 (by omega)).mono ?_
  rintro e W9 ⟨t2, rfl, own_t2, bel9⟩
  have b9 := below_step bel9 b8
  have s9 := bel9.size
  have own_x0 := own_x0.keep (Out.of_below bel9 W8.heap.size W8.heap.size) (by omega)
  have own_x1 := own_x1.keep (Out.of_below bel9 W8.heap.size W8.heap.size) (by omega)
  go_wp2_with fail
  refine (eqE_law own_x0 own_t2).mono ?_
  rintro e W10 ⟨rfl, bel10⟩
  have b10 := below_step bel10 b9
  have s10 := bel10.size
  have own_x0 := own_x0.keep (Out.of_below bel10 W9.heap.size W9.heap.size) (by omega)
  have own_x1 := own_x1.keep (Out.of_below bel10 W9.heap.size W9.heap.size) (by omega)
  have own_t2 := own_t2.keep (Out.of_below bel10 W9.heap.size W9.heap.size) (by omega)
  clear own_t2
  go_wp2_with fail
  have p11 : w.heap.size ≤ W10.heap.size := b10.size
  refine (toE_law hA1 b10 (by omega)).mono ?_
  rintro e W11 ⟨t3, rfl, own_t3, bel11⟩
  have b11 := below_step bel11 b10
  have s11 := bel11.size
  have own_x0 := own_x0.keep (Out.of_below bel11 W10.heap.size W10.heap.size) (by omega)
  have own_x1 := own_x1.keep (Out.of_below bel11 W10.heap.size W10.heap.size) (by omega)
  go_wp2_with fail
  refine (eqE_law own_x1 own_t3).mono ?_
  rintro e W12 ⟨rfl, bel12⟩
  have b12 := below_step bel12 b11
  have s12 := bel12.size
  have own_x0 := own_x0.keep (Out.of_below bel12 W11.heap.size W11.heap.size) (by omega)
  have own_x1 := own_x1.keep (Out.of_below bel12 W11.heap.size W11.heap.size) (by omega)
  have own_t3 := own_t3.keep (Out.of_below bel12 W11.heap.size W11.heap.size) (by omega)
  clear own_t3
  have HB := Lib.hid b12
  clear own_x0 own_x1 hA0 ok0 hA1 ok1
  go_wp2
  go_ret
  exact ⟨rfl, HB.out⟩
end Go.Proofs.Ytjbildcomjdpjaa.FnExactCommonEntries
