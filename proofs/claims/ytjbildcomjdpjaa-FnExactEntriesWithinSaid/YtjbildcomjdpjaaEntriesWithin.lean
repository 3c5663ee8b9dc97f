/- The walk of the law FnExactEntriesWithin. No condition but those of its arguments. -/
import Derived.Test.YtjbildcomjdpjaaSelect
import Derived.Test.YtjbildcomjdpjaaOwnE
import Derived.Test.YtjbildcomjdpjaaOpenEntry
import Derived.WalkSpells
import Derived.WalkLawsBesides
import Derived.Deep.RegionHeld3
namespace Go.Proofs.Ytjbildcomjdpjaa
theorem specWithinE_law {w : World} {v : Value} {l : List Ent} {lo hi : Nat} {p : ByteArray} (h : OwE l lo hi w v) (hl : l.length ≤ 1048576) (hok : ∀ e ∈ l, e.ok) (hp : p.size ≤ 1048576) : Calls Try.prog 22 #[v, .string p] w (Made (OwE (l.filter (isInE p))) w) := made_of_fresh (specWithin_any v l p _ w h.sl (Nat.le_refl _) hl (fun e he => (hok e he).1) (by unfold maxLen; omega))
theorem implWithinE_law {w : World} {v : Value} {l : List Ent} {lo hi : Nat} {p : ByteArray} (h : OwE l lo hi w v) (hl : l.length ≤ 1048576) (hok : ∀ e ∈ l, e.ok) (hp : p.size ≤ 1048576) : Calls Try.prog 23 #[v, .string p] w (Made (OwE (l.filter (isInE p))) w) := made_of_fresh (implWithin_any v l p _ w h.sl (Nat.le_refl _) hl (fun e he => (hok e he).1) (by omega))
end Go.Proofs.Ytjbildcomjdpjaa
namespace Go.Proofs.Ytjbildcomjdpjaa.FnExactEntriesWithin
open Go.RowKit
set_option maxHeartbeats 2000000 in
set_option maxRecDepth 100000 in
theorem walk (v0 : Value) (l0 : List Ent) (a1 : ByteArray) (w : World) (hA0 : SlE w w.heap.size v0 l0) (ok0 : ∀ e ∈ l0, e.ok) (hA1 : a1.size ≤ maxLen) :
    Calls Try.prog 5 #[v0, .string a1] w fun e w' => e = .returned (.bool true) ∧ Below w.heap.size w w' := by
  have hA1' := hA1
  unfold maxLen at hA1'
  by_cases big1 : 1048576 < (a1.size : Int)
  · clear hA0 ok0 hA1
    go_enter Try.func5, Try.ntmps5
    go_wp2
    go_ret
    exact ⟨rfl, Below.refl _ _⟩
  have hl1 : a1.size ≤ 1048576 := by omega
  clear big1
  have hf0 : (l0.filter (isInE a1)).length ≤ l0.length := List.length_filter_le _ _
  go_enter Try.func5, Try.ntmps5
  go_wp2_with fail
  refine (szEntryS_any v0 l0 _ 1048576 _ (hA0.below (Below.refl w.heap.size w)) (Below.refl w.heap.size w).size (fun e he => (ok0 e he).1) (by omega) (by omega)).mono ?_
  rintro e W1 ⟨z1, rfl, bel1, hr1⟩
  have b1 := below_step bel1 (Below.refl w.heap.size w)
  have s1 := bel1.size
  rcases hr1 with rfl | ⟨q1, y1, len1, all1⟩
  · have HB := Lib.hid b1
    clear hA0 ok0 hA1
    go_wp2
    go_ret
    exact ⟨rfl, HB.out⟩
  have hl0 : l0.length ≤ 1048576 := by omega
  have HA1 := Lib.hid all1
  clear len1 all1
  go_wp2_with fail
  have p2 : w.heap.size ≤ W1.heap.size := b1.size
  refine (toE_law hA0 b1 (by omega)).mono ?_
  rintro e W2 ⟨t0, rfl, own_t0, bel2⟩
  have b2 := below_step bel2 b1
  have s2 := bel2.size
  go_wp2_with fail
  have p3 : w.heap.size ≤ W2.heap.size := b2.size
  refine (specWithinE_law own_t0 hl0 ok0 hl1).mono ?_
  rintro e W3 ⟨w0, rfl, own_w0, bel3⟩
  have b3 := below_step bel3 b2
  have s3 := bel3.size
  have own_t0 := own_t0.keep (Out.of_below bel3 W2.heap.size W2.heap.size) (by omega)
  clear own_t0
  go_wp2_with fail
  have p4 : w.heap.size ≤ W3.heap.size := b3.size
  refine (toE_law hA0 b3 (by omega)).mono ?_
  rintro e W4 ⟨x0, rfl, own_x0, bel4⟩
  have b4 := below_step bel4 b3
  have s4 := bel4.size
  have own_w0 := own_w0.keep (Out.of_below bel4 W3.heap.size W3.heap.size) (by omega)
  go_wp2_with fail
  have p5 : w.heap.size ≤ W4.heap.size := b4.size
  refine (implWithinE_law own_x0 hl0 ok0 hl1).mono ?_
  rintro e W5 ⟨g0, rfl, own_g0, bel5⟩
  have b5 := below_step bel5 b4
  have s5 := bel5.size
  have own_w0 := own_w0.keep (Out.of_below bel5 W4.heap.size W4.heap.size) (by omega)
  have own_x0 := own_x0.keep (Out.of_below bel5 W4.heap.size W4.heap.size) (by omega)
  go_wp2_with fail
  refine (eqE_law own_g0 own_w0).mono ?_
  rintro e W6 ⟨rfl, bel6⟩
  have b6 := below_step bel6 b5
  have s6 := bel6.size
  have own_w0 := own_w0.keep (Out.of_below bel6 W5.heap.size W5.heap.size) (by omega)
  have own_x0 := own_x0.keep (Out.of_below bel6 W5.heap.size W5.heap.size) (by omega)
  have own_g0 := own_g0.keep (Out.of_below bel6 W5.heap.size W5.heap.size) (by omega)
  go_wp2_with fail
  have p7 : w.heap.size ≤ W6.heap.size := b6.size
  refine (toE_law hA0 b6 (by omega)).mono ?_
  rintro e W7 ⟨t1, rfl, own_t1, bel7⟩
  have b7 := below_step bel7 b6
  have s7 := bel7.size
  have own_w0 := own_w0.keep (Out.of_below bel7 W6.heap.size W6.heap.size) (by omega)
  have own_x0 := own_x0.keep (Out.of_below bel7 W6.heap.size W6.heap.size) (by omega)
  have own_g0 := own_g0.keep (Out.of_below bel7 W6.heap.size W6.heap.size) (by omega)
  go_wp2_with fail
  refine (eqE_law own_x0 own_t1).mono ?_
  rintro e W8 ⟨rfl, bel8⟩
  have b8 := below_step bel8 b7
  have s8 := bel8.size
  have own_w0 := own_w0.keep (Out.of_below bel8 W7.heap.size W7.heap.size) (by omega)
  have own_x0 := own_x0.keep (Out.of_below bel8 W7.heap.size W7.heap.size) (by omega)
  have own_g0 := own_g0.keep (Out.of_below bel8 W7.heap.size W7.heap.size) (by omega)
  have own_t1 := own_t1.keep (Out.of_below bel8 W7.heap.size W7.heap.size) (by omega)
  clear own_t1
  go_wp2_with fail
  have p9 : w.heap.size ≤ W8.heap.size := b8.size
  refine (markE_law own_x0 1 (by omega) (by omega) (by first | omega | (simp; omega))).mono ?_
  rintro e W9 ⟨rr9, rfl, ge9, le9, mk_x0, out9⟩
  clear own_x0
  have b9 := Out.below out9 b8 (by omega)
  have s9 := out9.size
  have own_w0 := own_w0.keep out9 (by omega)
  have own_g0 := own_g0.keep out9 (by omega)
  go_wp2_with fail
  refine (eqE_law own_g0 own_w0).mono ?_
  rintro e W10 ⟨rfl, bel10⟩
  have b10 := below_step bel10 b9
  have s10 := bel10.size
  have own_w0 := own_w0.keep (Out.of_below bel10 W9.heap.size W9.heap.size) (by omega)
  have mk_x0 := mk_x0.keep (Out.of_below bel10 W9.heap.size W9.heap.size) (by omega)
  have own_g0 := own_g0.keep (Out.of_below bel10 W9.heap.size W9.heap.size) (by omega)
  go_wp2_with fail
  have p11 : w.heap.size ≤ W10.heap.size := b10.size
  refine (markE_law own_g0 1 (by omega) (by omega) (by first | omega | (simp; omega))).mono ?_
  rintro e W11 ⟨rr11, rfl, ge11, le11, mk_g0, out11⟩
  clear own_g0
  have b11 := Out.below out11 b10 (by omega)
  have s11 := out11.size
  have own_w0 := own_w0.keep out11 (by omega)
  have mk_x0 := mk_x0.keep out11 (by omega)
  go_wp2_with fail
  refine (heldE_law mk_g0).mono ?_
  rintro e W12 ⟨rfl, bel12⟩
  have b12 := below_step bel12 b11
  have s12 := bel12.size
  have own_w0 := own_w0.keep (Out.of_below bel12 W11.heap.size W11.heap.size) (by omega)
  have mk_x0 := mk_x0.keep (Out.of_below bel12 W11.heap.size W11.heap.size) (by omega)
  have mk_g0 := mk_g0.keep (Out.of_below bel12 W11.heap.size W11.heap.size) (by omega)
  go_wp2_with fail
  have p13 : w.heap.size ≤ W12.heap.size := b12.size
  refine (toE_law hA0 b12 (by omega)).mono ?_
  rintro e W13 ⟨t2, rfl, own_t2, bel13⟩
  have b13 := below_step bel13 b12
  have s13 := bel13.size
  have own_w0 := own_w0.keep (Out.of_below bel13 W12.heap.size W12.heap.size) (by omega)
  have mk_x0 := mk_x0.keep (Out.of_below bel13 W12.heap.size W12.heap.size) (by omega)
  have mk_g0 := mk_g0.keep (Out.of_below bel13 W12.heap.size W12.heap.size) (by omega)
  go_wp2_with fail
  have p14 : w.heap.size ≤ W13.heap.size := b13.size
  refine (implWithinE_law own_t2 hl0 ok0 hl1).mono ?_
  rintro e W14 ⟨h0, rfl, own_h0, bel14⟩
  have b14 := below_step bel14 b13
  have s14 := bel14.size
  have own_w0 := own_w0.keep (Out.of_below bel14 W13.heap.size W13.heap.size) (by omega)
  have mk_x0 := mk_x0.keep (Out.of_below bel14 W13.heap.size W13.heap.size) (by omega)
  have mk_g0 := mk_g0.keep (Out.of_below bel14 W13.heap.size W13.heap.size) (by omega)
  have own_t2 := own_t2.keep (Out.of_below bel14 W13.heap.size W13.heap.size) (by omega)
  clear own_t2
  go_wp2_with fail
  refine (eqE_law own_h0 own_w0).mono ?_
  rintro e W15 ⟨rfl, bel15⟩
  have b15 := below_step bel15 b14
  have s15 := bel15.size
  have own_w0 := own_w0.keep (Out.of_below bel15 W14.heap.size W14.heap.size) (by omega)
  have mk_x0 := mk_x0.keep (Out.of_below bel15 W14.heap.size W14.heap.size) (by omega)
  have mk_g0 := mk_g0.keep (Out.of_below bel15 W14.heap.size W14.heap.size) (by omega)
  have own_h0 := own_h0.keep (Out.of_below bel15 W14.heap.size W14.heap.size) (by omega)
  go_wp2_with fail
  refine (heldE_law mk_g0).mono ?_
  rintro e W16 ⟨rfl, bel16⟩
  have b16 := below_step bel16 b15
  have s16 := bel16.size
  have own_w0 := own_w0.keep (Out.of_below bel16 W15.heap.size W15.heap.size) (by omega)
  have mk_x0 := mk_x0.keep (Out.of_below bel16 W15.heap.size W15.heap.size) (by omega)
  have mk_g0 := mk_g0.keep (Out.of_below bel16 W15.heap.size W15.heap.size) (by omega)
  have own_h0 := own_h0.keep (Out.of_below bel16 W15.heap.size W15.heap.size) (by omega)
  have HB := Lib.hid b16
  clear own_w0 mk_x0 mk_g0 own_h0 hA0 ok0 hA1
  go_wp2
  go_ret
  exact ⟨rfl, HB.out⟩
end Go.Proofs.Ytjbildcomjdpjaa.FnExactEntriesWithin
