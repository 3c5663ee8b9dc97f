/- The walk of the law FnExactStepOf. No condition but those of its arguments. -/
import Derived.Test.YtkfmdkogifmfmaaDoorStepW
import Derived.Test.YtkfmdkogifmfmaaDoorDescO
import Derived.Test.YtkfmdkogifmfmaaDoorDescEq
import Derived.WalkSpells
import Derived.WalkLawsBesides
import Derived.Deep.RegionHeld3
namespace Go.Proofs.YtkfmdkogifmfmaaDoor.FnExactStepOf
set_option linter.unusedSimpArgs false
set_option linter.unusedVariables false
open Go.RowKit
set_option maxHeartbeats 4000000 in
set_option maxRecDepth 100000 in
theorem walk (v0 : Value) (l0 : List RM) (a1 : Int) (a2 : Int) (w : World) (hA0 : SlD w w.heap.size v0 l0) (ok0 : ∀ r ∈ l0, r.d.ok) (hA1 : -9223372036854775808 ≤ a1 ∧ a1 ≤ 9223372036854775807) (hA2 : -9223372036854775808 ≤ a2 ∧ a2 ≤ 9223372036854775807) (htab : Tab w) :
    Calls Tryd.prog 4 #[.agg #[v0], .int .i64 a1, .int .i64 a2] w fun e w' => e = .returned (.bool true) ∧ Below w.heap.size w w' := by
  obtain ⟨Aa0, ca0, rfl⟩ : ∃ A c, v0 = .slice A l0.length c := by obtain ⟨A, c, h, -⟩ := hA0.open_; exact ⟨A, c, h⟩
  obtain ⟨D0, hD0⟩ : ∃ D, l0.map RM.d = D := ⟨_, rfl⟩
  have HD0 := Lib.hid hD0
  clear hD0
  have HTab := Lib.hid htab
  clear htab
  go_enter Tryd.func4, Tryd.ntmps4
  have b0 : Below w.heap.size w (w.alloc (.cells #[.slice Aa0 l0.length ca0] 24)) := (Below.refl w.heap.size w).alloc ((Below.refl w.heap.size w)).size _
  have z0 : (w.alloc (.cells #[.slice Aa0 l0.length ca0] 24)).heap.size = w.heap.size + 1 := by simp
  have zl0 : w.heap.size ≤ w.heap.size := ((Below.refl w.heap.size w)).size
  have c_aD_0 : (w.alloc (.cells #[.slice Aa0 l0.length ca0] 24)).cell? ⟨w.heap.size, 0, none⟩ = some (.slice Aa0 l0.length ca0) := by simp [go_sem]
  go_wp2_with fail
  refine (szD_law hA0 b0 ok0 (by omega) (by omega)).mono ?_
  rintro e W1 ⟨z1, rfl, bel1, hr1⟩
  have b1 := below_step bel1 b0
  have s1 := bel1.size
  have p1 : w.heap.size ≤ W1.heap.size := b1.size
  have c_aD_0 := cell_later bel1 c_aD_0
  rcases hr1 with rfl | ⟨q1, y1, hs0⟩
  · have HB := Lib.hid b1
    clear hA0 ok0
    go_wp2
    go_ret
    exact ⟨rfl, HB.out⟩
  have ok_0 := Lib.hid (okD_of ok0 hs0 HD0.out)
  go_wp2_with fail
  refine (toD_law hA0 b1 hs0 HD0.out).mono ?_
  rintro e W2 ⟨t0, rfl, own_t0, bel2⟩
  have b2 := below_step bel2 b1
  have s2 := bel2.size
  have p2 : w.heap.size ≤ W2.heap.size := b2.size
  have c_aD_0 := cell_later bel2 c_aD_0
  obtain ⟨A_t0, c_t0, rfl⟩ := own_t0.slice
  go_wp2_with fail
  refine (specStep_law own_t0 ok_0.out hA2).mono ?_
  rintro e W3 ⟨rfl, bel3⟩
  have b3 := below_step bel3 b2
  have s3 := bel3.size
  have p3 : w.heap.size ≤ W3.heap.size := b3.size
  have own_t0 := own_t0.keep (Out.of_below bel3 W2.heap.size W2.heap.size) (by omega)
  have c_aD_0 := cell_later bel3 c_aD_0
  clear own_t0
  go_wp2_with fail
  refine (toD_law hA0 b3 hs0 HD0.out).mono ?_
  rintro e W4 ⟨x0, rfl, own_x0, bel4⟩
  have b4 := below_step bel4 b3
  have s4 := bel4.size
  have p4 : w.heap.size ≤ W4.heap.size := b4.size
  have c_aD_0 := cell_later bel4 c_aD_0
  obtain ⟨A_x0, c_x0, rfl⟩ := own_x0.slice
  have b5 : Below w.heap.size w (W4.alloc (.cells #[.slice A_x0 D0.length c_x0] 32)) := b4.alloc (b4).size _
  have z5 : (W4.alloc (.cells #[.slice A_x0 D0.length c_x0] 32)).heap.size = W4.heap.size + 1 := by simp
  have zl5 : w.heap.size ≤ W4.heap.size := (b4).size
  have c_aD_0 : (W4.alloc (.cells #[.slice A_x0 D0.length c_x0] 32)).cell? ⟨w.heap.size, 0, none⟩ = some (.slice Aa0 l0.length ca0) := cell_later ((Below.refl _ _).alloc (Nat.le_refl _) _) c_aD_0
  have own_x0 := own_x0.keep (Out.of_below ((Below.refl W4.heap.size W4).alloc (Nat.le_refl _) (.cells #[.slice A_x0 D0.length c_x0] 32)) W4.heap.size W4.heap.size) (by omega)
  have c_x0_0 : (W4.alloc (.cells #[.slice A_x0 D0.length c_x0] 32)).cell? ⟨W4.heap.size, 0, none⟩ = some (.slice A_x0 D0.length c_x0) := by simp [go_sem]
  go_wp2_with fail
  refine (implStep_law own_x0 ok_0.out hA2 HTab.out b5).mono ?_
  rintro e W6 ⟨rfl, bel6⟩
  have b6 := below_step bel6 b5
  have s6 := bel6.size
  have p6 : w.heap.size ≤ W6.heap.size := b6.size
  have own_x0 := own_x0.keep (Out.of_below bel6 (W4.alloc (.cells #[.slice A_x0 D0.length c_x0] 32)).heap.size (W4.alloc (.cells #[.slice A_x0 D0.length c_x0] 32)).heap.size) (by omega)
  have c_aD_0 := cell_later bel6 c_aD_0
  have c_x0_0 := cell_later bel6 c_x0_0
  go_wp2_with fail
  have own_x0 := own_x0.keep (Out.of_below ((Below.refl W6.heap.size W6).drew) 0 0) (by omega)
  have zd1 : W6.drew.heap.size ≤ W6.heap.size := Nat.le_refl _
  have zd2 : W6.heap.size ≤ W6.drew.heap.size := Nat.le_refl _
  refine wp_region_held_drew (S := (fun w9 => w9.cell? ⟨w.heap.size, 0, none⟩ = some (.slice Aa0 l0.length ca0) ∧ w9.cell? ⟨W4.heap.size, 0, none⟩ = some (.slice A_x0 D0.length c_x0))) (by kernel_rfl) ?_ (fun hHeld => ?_)
  · (try dsimp only); exact ⟨c_aD_0, c_x0_0⟩
  refine rgTake 0 (some 30) rfl rfl (by kernel_rfl) (by kernel_rfl) (by kernel_rfl) (fun _ _ _ _ h => h) (by rfl) hHeld ?_ ?_ ?_; rotate_left
  · (intro w9 hSw; (try dsimp only at hSw); go_simp; try with_reducible rfl)
  try simp only [Act.put, List.setIfInBounds_toArray, List.set_cons_zero, List.set_cons_succ]
  refine rgTake 1 (some 31) rfl rfl (by kernel_rfl) (by kernel_rfl) (by kernel_rfl) (fun _ _ _ _ h => h) (by rfl) hHeld ?_ ?_ ?_; rotate_left
  · (intro w9 hSw; (try dsimp only at hSw); go_simp; try with_reducible rfl)
  try simp only [Act.put, List.setIfInBounds_toArray, List.set_cons_zero, List.set_cons_succ]
  refine rgStep 2 (by kernel_rfl) rfl (by rfl) (fun K hK => ?_)
  go_simp
  refine (toD_law hA0 (b6).drew hs0 HD0.out).mono ?_; rintro e W7 ⟨t1, rfl, own_t1, bel7⟩; have b7 := below_step bel7 (b6).drew; have s7 := bel7.size; have p7 : w.heap.size ≤ W7.heap.size := b7.size; have own_x0 := own_x0.keep (Out.of_below bel7 W6.heap.size W6.heap.size) (by omega); have c_aD_0 := cell_later bel7 c_aD_0; have c_x0_0 := cell_later bel7 c_x0_0; obtain ⟨A_t1, c_t1, rfl⟩ := own_t1.slice
  (try go_wp2_with fail)
  refine hK.out _ _ ?_ (fun hHeld => ?_)
  · (try dsimp only); exact ⟨c_aD_0, c_x0_0⟩
  clear hK K
  try simp only [Act.put, List.setIfInBounds_toArray, List.set_cons_zero, List.set_cons_succ]
  refine rgStep 3 (by kernel_rfl) rfl (by rfl) (fun K hK => ?_)
  go_simp
  refine (eqD_law own_x0 own_t1).mono ?_; rintro e W8 ⟨rfl, bel8⟩; have b8 := below_step bel8 b7; have s8 := bel8.size; have p8 : w.heap.size ≤ W8.heap.size := b8.size; have own_x0 := own_x0.keep (Out.of_below bel8 W7.heap.size W7.heap.size) (by omega); have own_t1 := own_t1.keep (Out.of_below bel8 W7.heap.size W7.heap.size) (by omega); have c_aD_0 := cell_later bel8 c_aD_0; have c_x0_0 := cell_later bel8 c_x0_0; clear own_t1
  (try go_wp2_with fail)
  refine hK.out _ _ ?_ (fun hHeld => ?_)
  · (try dsimp only); exact ⟨c_aD_0, c_x0_0⟩
  clear hK K
  try simp only [Act.put, List.setIfInBounds_toArray, List.set_cons_zero, List.set_cons_succ]
  refine rgTake 4 (some 34) rfl rfl (by kernel_rfl) (by kernel_rfl) (by kernel_rfl) (fun _ _ _ _ h => h) (by rfl) hHeld ?_ ?_ ?_; rotate_left
  · (intro w9 hSw; (try dsimp only at hSw); go_simp; try with_reducible rfl)
  try simp only [Act.put, List.setIfInBounds_toArray, List.set_cons_zero, List.set_cons_succ]
  refine wpAnyH_done (by kernel_rfl) ?_ _
  have HB := Lib.hid b8
  clear own_x0 hA0 ok0
  go_wp2
  go_ret
  exact ⟨rfl, HB.out⟩
end Go.Proofs.YtkfmdkogifmfmaaDoor.FnExactStepOf
