/- The walk of the law FnExactSplitPath. No condition but those of its arguments. -/
import Derived.Test.YtglminmoglncpaaSplitS
import Derived.Test.YtglminmoglncpaaRfPath
import Derived.Test.YtglminmoglncpaaStrMark
import Derived.WalkSpells
import Derived.WalkLawsBesides
import Derived.Deep.RegionHeld3
import Derived.Deep.DeepCutAuto
namespace Go.Proofs.Ytglminmoglncpaa
open Go.RowKit
set_option maxHeartbeats 400000 in
theorem implSplitPath_any (s : ByteArray) (w : World) (hs : s.size ≤ 2097152) :
    Calls Try.prog 9 #[.string s] w (OwB (spL isStep s) (spOk isStep s) w) := by
  go_enter Try.func9, Try.ntmps9
  go_wp2_with fail
  refine (splitWithP_any s w hs).mono ?_
  rintro e w1 ⟨v, rfl, hown, hb⟩
  have H := Lib.hid (And.intro hown hb)
  clear hown hb
  go_wp2
  go_ret2
  exact ⟨_, rfl, H.out.1, H.out.2⟩
theorem OwB.law {l : List ByteArray} {b : Bool} {w w' : World} {e : Ending} (h : OwB l b w e w') : ∃ v, e = .returned (.tuple #[v, .bool b]) ∧ OwS l w.heap.size w'.heap.size w' v ∧ Below w.heap.size w w' := by
  obtain ⟨v, he, hown, hb⟩ := h
  exact ⟨v, he, ⟨hown, fun g hk => (hown.lt g hk).2⟩, hb⟩
theorem implSplitPath_law (s : ByteArray) (w : World) (hs : s.size ≤ 2097152) :
    Calls Try.prog 9 #[.string s] w fun e w' => ∃ v, e = .returned (.tuple #[v, .bool (spOk isStep s)]) ∧ OwS (spL isStep s) w.heap.size w'.heap.size w' v ∧ Below w.heap.size w w' :=
  (implSplitPath_any s w hs).mono fun _ _ h => h.law
theorem spL_len (isS : ByteArray → Bool) (s : ByteArray) : (spL isS s).length ≤ s.size := by
  unfold spL
  split
  · have := (splitT_length s 47).1
    rw [tailT, List.length_tail]; omega
  · simp
end Go.Proofs.Ytglminmoglncpaa
namespace Go.Proofs.Ytglminmoglncpaa.FnExactSplitPath
open Go.RowKit
theorem eqS_law {w : World} {v u : Value} {l : List ByteArray} {lo hi lo' hi' : Nat} (h : OwS l lo hi w v) (h' : RdS l lo' hi' w u) :
    Calls Try.prog 10 #[v, u] w (True1 w) := by
  refine (eqStringS_any v u l l _ _ w h.sl h'.sl).mono fun e w' hq => ?_
  have := hq.below
  rw [decide_eq_true rfl] at this
  exact this
end Go.Proofs.Ytglminmoglncpaa.FnExactSplitPath
namespace Go.Proofs.Ytglminmoglncpaa.FnExactSplitPath
open Go.RowKit
set_option maxHeartbeats 2000000 in
set_option maxRecDepth 100000 in
theorem walk (a0 : ByteArray) (w : World) (hA0 : a0.size ≤ maxLen) :
    Calls Try.prog 3 #[.string a0] w fun e w' => e = .returned (.bool true) ∧ Below w.heap.size w w' := by
  have hA0' := hA0
  unfold maxLen at hA0'
  by_cases big0 : 1048576 < (a0.size : Int)
  · clear hA0
    go_enter Try.func3, Try.ntmps3
    go_wp2
    go_ret
    exact ⟨rfl, (by repeat (first | exact Below.refl _ _ | assumption | refine Below.alloc ?_ (by first | omega | (simp <;> omega)) _ | refine Below.setCell ?_ (by first | omega | (simp <;> omega)) _ | refine Below.drew ?_ | refine below_drewN ?_ _))⟩
  have hl0 : a0.size ≤ 1048576 := by omega
  clear big0
  have hlen := spL_len isStep a0
  go_enter Try.func3, Try.ntmps3
  go_wp2_with fail
  have p1 : w.heap.size ≤ w.heap.size := (Below.refl w.heap.size w).size
  refine (specSplitPath_any a0 _ (by omega)).mono ?_
  rintro e W1 ⟨w0, rfl, own_w0, bel1⟩
  have b1 := below_step bel1 (Below.refl w.heap.size w)
  have s1 := bel1.size
  go_wp2_with fail
  have p2 : w.heap.size ≤ W1.heap.size := b1.size
  refine (implSplitPath_law a0 _ (by omega)).mono ?_
  rintro e W2 ⟨g0, rfl, own_g0, bel2⟩
  have b2 := below_step bel2 b1
  have s2 := bel2.size
  have own_w0 := own_w0.keep (Out.of_below bel2 W1.heap.size W1.heap.size) (by omega)
  go_wp2_with fail
  refine (eqS_law own_g0 own_w0).mono ?_
  rintro e W3 ⟨rfl, bel3⟩
  have b3 := below_step bel3 b2
  have s3 := bel3.size
  have own_w0 := own_w0.keep (Out.of_below bel3 W2.heap.size W2.heap.size) (by omega)
  have own_g0 := own_g0.keep (Out.of_below bel3 W2.heap.size W2.heap.size) (by omega)
  go_wp2_with fail
  have p4 : w.heap.size ≤ W3.heap.size := b3.size
  refine (markS_law own_g0 1 (by omega) (by omega) (by first | omega | (simp <;> omega))).mono ?_
  rintro e W4 ⟨rr4, rfl, ge4, le4, mk_g0, out4⟩
  clear own_g0
  have b4 := Out.below out4 b3 (by omega)
  have s4 := out4.size
  have own_w0 := own_w0.keep out4 (by omega)
  go_wp2_with fail
  refine (heldS_law mk_g0).mono ?_
  rintro e W5 ⟨rfl, bel5⟩
  have b5 := below_step bel5 b4
  have s5 := bel5.size
  have own_w0 := own_w0.keep (Out.of_below bel5 W4.heap.size W4.heap.size) (by omega)
  have mk_g0 := mk_g0.keep (Out.of_below bel5 W4.heap.size W4.heap.size) (by omega)
  go_wp2_with fail
  have p6 : w.heap.size ≤ W5.heap.size := b5.size
  refine (implSplitPath_law a0 _ (by omega)).mono ?_
  rintro e W6 ⟨h0, rfl, own_h0, bel6⟩
  have b6 := below_step bel6 b5
  have s6 := bel6.size
  have own_w0 := own_w0.keep (Out.of_below bel6 W5.heap.size W5.heap.size) (by omega)
  have mk_g0 := mk_g0.keep (Out.of_below bel6 W5.heap.size W5.heap.size) (by omega)
  go_wp2_with fail
  refine (eqS_law own_h0 own_w0).mono ?_
  rintro e W7 ⟨rfl, bel7⟩
  have b7 := below_step bel7 b6
  have s7 := bel7.size
  have own_w0 := own_w0.keep (Out.of_below bel7 W6.heap.size W6.heap.size) (by omega)
  have mk_g0 := mk_g0.keep (Out.of_below bel7 W6.heap.size W6.heap.size) (by omega)
  have own_h0 := own_h0.keep (Out.of_below bel7 W6.heap.size W6.heap.size) (by omega)
  go_wp2_with fail
  refine (heldS_law mk_g0).mono ?_
  rintro e W8 ⟨rfl, bel8⟩
  have b8 := below_step bel8 b7
  have s8 := bel8.size
  have own_w0 := own_w0.keep (Out.of_below bel8 W7.heap.size W7.heap.size) (by omega)
  have mk_g0 := mk_g0.keep (Out.of_below bel8 W7.heap.size W7.heap.size) (by omega)
  have own_h0 := own_h0.keep (Out.of_below bel8 W7.heap.size W7.heap.size) (by omega)
  have HB := Lib.hid b8
  clear own_w0 mk_g0 own_h0 hA0
  go_wp2
  go_ret
  exact ⟨rfl, HB.out⟩
end Go.Proofs.Ytglminmoglncpaa.FnExactSplitPath
