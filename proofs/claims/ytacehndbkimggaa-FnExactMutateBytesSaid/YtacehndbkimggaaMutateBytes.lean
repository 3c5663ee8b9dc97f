/- The walk of the law FnExactMutateBytes. No condition but those of its arguments. -/
import Derived.Test.YtacehndbkimggaaMutB
import Derived.Test.YtacehndbkimggaaOwnB
import Derived.WalkSpells
import Derived.WalkLawsBesides
import Derived.Deep.RegionHeld3
import Derived.Deep.DeepCutAuto
namespace Go.Proofs.Ytacehndbkimggaa
open Go.RowKit
theorem specMutB_law {w : World} {v : Value} {l : List UInt8} {lo hi : Nat} {s c : Int} (h : OwB l lo hi w v) (hl : l.length ≤ 1048576) : Calls Try.prog 22 #[v, .int .i64 s, .int .i64 c] w (Made (OwB (mbL l s c)) w) := made_of_fresh (specMutB_any v l s c _ w h.sl (Nat.le_refl _) hl)
theorem implMutB_law {w : World} {v : Value} {l : List UInt8} {lo hi : Nat} {s c : Int} (h : OwB l lo hi w v) (hl : l.length ≤ 1048576) : Calls Try.prog 23 #[v, .int .i64 s, .int .i64 c] w (Made (OwB (mbL l s c)) w) := made_of_fresh (implMutB_any v l s c _ w h.sl (Nat.le_refl _) hl)
theorem mbL_len (l : List UInt8) (s c : Int) : (mbL l s c).length ≤ l.length + 20 := by
  have h1 := mbIt_len s l (mbN l c)
  have h2 : mbN l c ≤ 20 := by unfold mbN; split <;> omega
  unfold mbL; omega
end Go.Proofs.Ytacehndbkimggaa
namespace Go.Proofs.Ytacehndbkimggaa.FnExactMutateBytes
open Go.RowKit
set_option maxHeartbeats 2000000 in
set_option maxRecDepth 100000 in
theorem walk (v0 : Value) (l0 : List UInt8) (a1 : Int) (a2 : Int) (w : World) (hA0 : SlB w w.heap.size v0 l0) (hA1 : -9223372036854775808 ≤ a1 ∧ a1 ≤ 9223372036854775807) (hA2 : -9223372036854775808 ≤ a2 ∧ a2 ≤ 9223372036854775807) :
    Calls Try.prog 6 #[v0, .int .i64 a1, .int .i64 a2] w fun e w' => e = .returned (.bool true) ∧ Below w.heap.size w w' := by
  have hA0' := hA0.len
  obtain ⟨A0, cc0, rfl⟩ : ∃ A c, v0 = .slice A l0.length c := by obtain ⟨A, c, h, _⟩ := hA0.open_; exact ⟨A, c, h⟩
  by_cases big0 : 1048576 < (l0.length : Int)
  · clear hA0 hA1 hA2
    go_enter Try.func6, Try.ntmps6
    go_wp2
    go_ret
    exact ⟨rfl, (by repeat (first | exact Below.refl _ _ | assumption | refine Below.alloc ?_ (by first | omega | (simp <;> omega)) _ | refine Below.setCell ?_ (by first | omega | (simp <;> omega)) _ | refine Below.drew ?_ | refine below_drewN ?_ _))⟩
  have hl0 : l0.length ≤ 1048576 := by omega
  clear big0
  have hf0 := mbL_len l0 a1 a2
  go_enter Try.func6, Try.ntmps6
  go_wp2_with fail
  have p1 : w.heap.size ≤ w.heap.size := (Below.refl w.heap.size w).size
  refine (toB_law hA0 (Below.refl w.heap.size w) (by omega)).mono ?_
  rintro e W1 ⟨t0, rfl, own_t0, bel1⟩
  have b1 := below_step bel1 (Below.refl w.heap.size w)
  have s1 := bel1.size
  go_wp2_with fail
  have p2 : w.heap.size ≤ W1.heap.size := b1.size
  refine (specMutB_law own_t0 hl0).mono ?_
  rintro e W2 ⟨w0, rfl, own_w0, bel2⟩
  have b2 := below_step bel2 b1
  have s2 := bel2.size
  have own_t0 := own_t0.keep (Out.of_below bel2 W1.heap.size W1.heap.size) (by omega)
  clear own_t0
  go_wp2_with fail
  have p3 : w.heap.size ≤ W2.heap.size := b2.size
  refine (toB_law hA0 b2 (by omega)).mono ?_
  rintro e W3 ⟨x0, rfl, own_x0, bel3⟩
  have b3 := below_step bel3 b2
  have s3 := bel3.size
  have own_w0 := own_w0.keep (Out.of_below bel3 W2.heap.size W2.heap.size) (by omega)
  go_wp2_with fail
  have p4 : w.heap.size ≤ W3.heap.size := b3.size
  refine (implMutB_law own_x0 hl0).mono ?_
  rintro e W4 ⟨g0, rfl, own_g0, bel4⟩
  have b4 := below_step bel4 b3
  have s4 := bel4.size
  have own_w0 := own_w0.keep (Out.of_below bel4 W3.heap.size W3.heap.size) (by omega)
  have own_x0 := own_x0.keep (Out.of_below bel4 W3.heap.size W3.heap.size) (by omega)
  go_wp2_with fail
  refine (eqB_law own_g0 own_w0).mono ?_
  rintro e W5 ⟨rfl, bel5⟩
  have b5 := below_step bel5 b4
  have s5 := bel5.size
  have own_w0 := own_w0.keep (Out.of_below bel5 W4.heap.size W4.heap.size) (by omega)
  have own_x0 := own_x0.keep (Out.of_below bel5 W4.heap.size W4.heap.size) (by omega)
  have own_g0 := own_g0.keep (Out.of_below bel5 W4.heap.size W4.heap.size) (by omega)
  go_wp2_with fail
  have p6 : w.heap.size ≤ W5.heap.size := b5.size
  refine (toB_law hA0 b5 (by omega)).mono ?_
  rintro e W6 ⟨t1, rfl, own_t1, bel6⟩
  have b6 := below_step bel6 b5
  have s6 := bel6.size
  have own_w0 := own_w0.keep (Out.of_below bel6 W5.heap.size W5.heap.size) (by omega)
  have own_x0 := own_x0.keep (Out.of_below bel6 W5.heap.size W5.heap.size) (by omega)
  have own_g0 := own_g0.keep (Out.of_below bel6 W5.heap.size W5.heap.size) (by omega)
  go_wp2_with fail
  refine (eqB_law own_x0 own_t1).mono ?_
  rintro e W7 ⟨rfl, bel7⟩
  have b7 := below_step bel7 b6
  have s7 := bel7.size
  have own_w0 := own_w0.keep (Out.of_below bel7 W6.heap.size W6.heap.size) (by omega)
  have own_x0 := own_x0.keep (Out.of_below bel7 W6.heap.size W6.heap.size) (by omega)
  have own_g0 := own_g0.keep (Out.of_below bel7 W6.heap.size W6.heap.size) (by omega)
  have own_t1 := own_t1.keep (Out.of_below bel7 W6.heap.size W6.heap.size) (by omega)
  clear own_t1
  go_wp2_with fail
  have p8 : w.heap.size ≤ W7.heap.size := b7.size
  refine (markB_law own_x0 1 (by omega) (by omega) (by first | omega | (simp <;> omega))).mono ?_
  rintro e W8 ⟨rr8, rfl, ge8, le8, mk_x0, out8⟩
  clear own_x0
  have b8 := Out.below out8 b7 (by omega)
  have s8 := out8.size
  have own_w0 := own_w0.keep out8 (by omega)
  have own_g0 := own_g0.keep out8 (by omega)
  go_wp2_with fail
  refine (eqB_law own_g0 own_w0).mono ?_
  rintro e W9 ⟨rfl, bel9⟩
  have b9 := below_step bel9 b8
  have s9 := bel9.size
  have own_w0 := own_w0.keep (Out.of_below bel9 W8.heap.size W8.heap.size) (by omega)
  have mk_x0 := mk_x0.keep (Out.of_below bel9 W8.heap.size W8.heap.size) (by omega)
  have own_g0 := own_g0.keep (Out.of_below bel9 W8.heap.size W8.heap.size) (by omega)
  go_wp2_with fail
  have p10 : w.heap.size ≤ W9.heap.size := b9.size
  refine (markB_law own_g0 1 (by omega) (by omega) (by first | omega | (simp <;> omega))).mono ?_
  rintro e W10 ⟨rr10, rfl, ge10, le10, mk_g0, out10⟩
  clear own_g0
  have b10 := Out.below out10 b9 (by omega)
  have s10 := out10.size
  have own_w0 := own_w0.keep out10 (by omega)
  have mk_x0 := mk_x0.keep out10 (by omega)
  go_wp2_with fail
  refine (heldB_law mk_g0).mono ?_
  rintro e W11 ⟨rfl, bel11⟩
  have b11 := below_step bel11 b10
  have s11 := bel11.size
  have own_w0 := own_w0.keep (Out.of_below bel11 W10.heap.size W10.heap.size) (by omega)
  have mk_x0 := mk_x0.keep (Out.of_below bel11 W10.heap.size W10.heap.size) (by omega)
  have mk_g0 := mk_g0.keep (Out.of_below bel11 W10.heap.size W10.heap.size) (by omega)
  go_wp2_with fail
  have p12 : w.heap.size ≤ W11.heap.size := b11.size
  refine (toB_law hA0 b11 (by omega)).mono ?_
  rintro e W12 ⟨t2, rfl, own_t2, bel12⟩
  have b12 := below_step bel12 b11
  have s12 := bel12.size
  have own_w0 := own_w0.keep (Out.of_below bel12 W11.heap.size W11.heap.size) (by omega)
  have mk_x0 := mk_x0.keep (Out.of_below bel12 W11.heap.size W11.heap.size) (by omega)
  have mk_g0 := mk_g0.keep (Out.of_below bel12 W11.heap.size W11.heap.size) (by omega)
  go_wp2_with fail
  have p13 : w.heap.size ≤ W12.heap.size := b12.size
  refine (implMutB_law own_t2 hl0).mono ?_
  rintro e W13 ⟨h0, rfl, own_h0, bel13⟩
  have b13 := below_step bel13 b12
  have s13 := bel13.size
  have own_w0 := own_w0.keep (Out.of_below bel13 W12.heap.size W12.heap.size) (by omega)
  have mk_x0 := mk_x0.keep (Out.of_below bel13 W12.heap.size W12.heap.size) (by omega)
  have mk_g0 := mk_g0.keep (Out.of_below bel13 W12.heap.size W12.heap.size) (by omega)
  have own_t2 := own_t2.keep (Out.of_below bel13 W12.heap.size W12.heap.size) (by omega)
  clear own_t2
  go_wp2_with fail
  refine (eqB_law own_h0 own_w0).mono ?_
  rintro e W14 ⟨rfl, bel14⟩
  have b14 := below_step bel14 b13
  have s14 := bel14.size
  have own_w0 := own_w0.keep (Out.of_below bel14 W13.heap.size W13.heap.size) (by omega)
  have mk_x0 := mk_x0.keep (Out.of_below bel14 W13.heap.size W13.heap.size) (by omega)
  have mk_g0 := mk_g0.keep (Out.of_below bel14 W13.heap.size W13.heap.size) (by omega)
  have own_h0 := own_h0.keep (Out.of_below bel14 W13.heap.size W13.heap.size) (by omega)
  go_wp2_with fail
  refine (heldB_law mk_g0).mono ?_
  rintro e W15 ⟨rfl, bel15⟩
  have b15 := below_step bel15 b14
  have s15 := bel15.size
  have own_w0 := own_w0.keep (Out.of_below bel15 W14.heap.size W14.heap.size) (by omega)
  have mk_x0 := mk_x0.keep (Out.of_below bel15 W14.heap.size W14.heap.size) (by omega)
  have mk_g0 := mk_g0.keep (Out.of_below bel15 W14.heap.size W14.heap.size) (by omega)
  have own_h0 := own_h0.keep (Out.of_below bel15 W14.heap.size W14.heap.size) (by omega)
  have HB := Lib.hid b15
  clear own_w0 mk_x0 mk_g0 own_h0 hA0 hA1 hA2
  go_wp2
  go_ret
  exact ⟨rfl, HB.out⟩
end Go.Proofs.Ytacehndbkimggaa.FnExactMutateBytes
