/- The walk of the law FnExactFormatDiagnosis. No condition but those of its arguments. -/
import Derived.Test.YtkfmdkogifmfmaaDoorDiagW
import Derived.Test.YtkfmdkogifmfmaaDoorDescO
import Derived.Test.YtkfmdkogifmfmaaDoorDescEq
import Derived.WalkSpells
import Derived.WalkLawsBesides
import Derived.Deep.RegionHeld3
namespace Go.Proofs.YtkfmdkogifmfmaaDoor.FnExactFormatDiagnosis
set_option linter.unusedSimpArgs false
set_option linter.unusedVariables false
open Go.RowKit
set_option maxHeartbeats 4000000 in
set_option maxRecDepth 100000 in
theorem walk (v0 : Value) (l0 : List RM) (x1 : Diag) (w : World) (hA0 : SlD w w.heap.size v0 l0) (ok0 : ∀ r ∈ l0, r.d.ok) (ok1 : x1.ok) (htab : Tab w) :
    Calls Tryd.prog 3 #[.agg #[v0], .agg #[.int .i64 x1.code, .int .i64 x1.pos, .string x1.path, .int .i64 x1.rule]] w fun e w' => e = .returned (.bool true) ∧ Below w.heap.size w w' := by
  obtain ⟨Aa0, ca0, rfl⟩ : ∃ A c, v0 = .slice A l0.length c := by obtain ⟨A, c, h, -⟩ := hA0.open_; exact ⟨A, c, h⟩
  obtain ⟨D0, hD0⟩ : ∃ D, l0.map RM.d = D := ⟨_, rfl⟩
  have HD0 := Lib.hid hD0
  clear hD0
  have HTab := Lib.hid htab
  clear htab
  go_enter Tryd.func3, Tryd.ntmps3
  have b0 : Below w.heap.size w (w.alloc (.cells #[.slice Aa0 l0.length ca0] 24)) := (Below.refl w.heap.size w).alloc ((Below.refl w.heap.size w)).size _
  have z0 : (w.alloc (.cells #[.slice Aa0 l0.length ca0] 24)).heap.size = w.heap.size + 1 := by simp
  have zl0 : w.heap.size ≤ w.heap.size := ((Below.refl w.heap.size w)).size
  have c_aD_0 : (w.alloc (.cells #[.slice Aa0 l0.length ca0] 24)).cell? ⟨w.heap.size, 0, none⟩ = some (.slice Aa0 l0.length ca0) := by simp [go_sem]
  have b1 : Below w.heap.size w ((w.alloc (.cells #[.slice Aa0 l0.length ca0] 24)).alloc (.cells #[.int .i64 x1.code, .int .i64 x1.pos, .string x1.path, .int .i64 x1.rule] 26)) := b0.alloc (b0).size _
  have z1 : ((w.alloc (.cells #[.slice Aa0 l0.length ca0] 24)).alloc (.cells #[.int .i64 x1.code, .int .i64 x1.pos, .string x1.path, .int .i64 x1.rule] 26)).heap.size = (w.alloc (.cells #[.slice Aa0 l0.length ca0] 24)).heap.size + 1 := by simp
  have zl1 : w.heap.size ≤ (w.alloc (.cells #[.slice Aa0 l0.length ca0] 24)).heap.size := (b0).size
  have c_aD_0 : ((w.alloc (.cells #[.slice Aa0 l0.length ca0] 24)).alloc (.cells #[.int .i64 x1.code, .int .i64 x1.pos, .string x1.path, .int .i64 x1.rule] 26)).cell? ⟨w.heap.size, 0, none⟩ = some (.slice Aa0 l0.length ca0) := cell_later ((Below.refl _ _).alloc (Nat.le_refl _) _) c_aD_0
  have c_aX_0 : ((w.alloc (.cells #[.slice Aa0 l0.length ca0] 24)).alloc (.cells #[.int .i64 x1.code, .int .i64 x1.pos, .string x1.path, .int .i64 x1.rule] 26)).cell? ⟨w.heap.size + 1, 0, none⟩ = some (.int .i64 x1.code) := by simp [go_sem]
  have c_aX_1 : ((w.alloc (.cells #[.slice Aa0 l0.length ca0] 24)).alloc (.cells #[.int .i64 x1.code, .int .i64 x1.pos, .string x1.path, .int .i64 x1.rule] 26)).cell? ⟨w.heap.size + 1, 1, none⟩ = some (.int .i64 x1.pos) := by simp [go_sem]
  have c_aX_2 : ((w.alloc (.cells #[.slice Aa0 l0.length ca0] 24)).alloc (.cells #[.int .i64 x1.code, .int .i64 x1.pos, .string x1.path, .int .i64 x1.rule] 26)).cell? ⟨w.heap.size + 1, 2, none⟩ = some (.string x1.path) := by simp [go_sem]
  have c_aX_3 : ((w.alloc (.cells #[.slice Aa0 l0.length ca0] 24)).alloc (.cells #[.int .i64 x1.code, .int .i64 x1.pos, .string x1.path, .int .i64 x1.rule] 26)).cell? ⟨w.heap.size + 1, 3, none⟩ = some (.int .i64 x1.rule) := by simp [go_sem]
  go_wp2_with fail
  refine (szD_law hA0 b1 ok0 (by omega) (by omega)).mono ?_
  rintro e W2 ⟨z2, rfl, bel2, hr2⟩
  have b2 := below_step bel2 b1
  have s2 := bel2.size
  have p2 : w.heap.size ≤ W2.heap.size := b2.size
  have c_aD_0 := cell_later bel2 c_aD_0
  have c_aX_0 := cell_later bel2 c_aX_0
  have c_aX_1 := cell_later bel2 c_aX_1
  have c_aX_2 := cell_later bel2 c_aX_2
  have c_aX_3 := cell_later bel2 c_aX_3
  rcases hr2 with rfl | ⟨q2, y2, hs0⟩
  · have HB := Lib.hid b2
    clear hA0 ok0
    go_wp2
    go_ret
    exact ⟨rfl, HB.out⟩
  have ok_0 := Lib.hid (okD_of ok0 hs0 HD0.out)
  go_wp2_with fail
  refine (szDiag_law x1 ok1 b2 z2 q2 (by omega)).mono ?_
  rintro e W3 ⟨z3, rfl, bel3, hr3⟩
  have b3 := below_step bel3 b2
  have s3 := bel3.size
  have p3 : w.heap.size ≤ W3.heap.size := b3.size
  have c_aD_0 := cell_later bel3 c_aD_0
  have c_aX_0 := cell_later bel3 c_aX_0
  have c_aX_1 := cell_later bel3 c_aX_1
  have c_aX_2 := cell_later bel3 c_aX_2
  have c_aX_3 := cell_later bel3 c_aX_3
  rcases hr3 with rfl | ⟨q3, y3, hp1⟩
  · have HB := Lib.hid b3
    clear hA0 ok0
    go_wp2
    go_ret
    exact ⟨rfl, HB.out⟩
  go_wp2_with fail
  have zd1 : W3.drew.heap.size ≤ W3.heap.size := Nat.le_refl _
  have zd2 : W3.heap.size ≤ W3.drew.heap.size := Nat.le_refl _
  refine wp_region_held_drew (S := (fun w9 => w9.cell? ⟨w.heap.size, 0, none⟩ = some (.slice Aa0 l0.length ca0) ∧ w9.cell? ⟨w.heap.size + 1, 0, none⟩ = some (.int .i64 x1.code) ∧ w9.cell? ⟨w.heap.size + 1, 1, none⟩ = some (.int .i64 x1.pos) ∧ w9.cell? ⟨w.heap.size + 1, 2, none⟩ = some (.string x1.path) ∧ w9.cell? ⟨w.heap.size + 1, 3, none⟩ = some (.int .i64 x1.rule))) (by kernel_rfl) ?_ (fun hHeld => ?_)
  · (try dsimp only); exact ⟨c_aD_0, c_aX_0, c_aX_1, c_aX_2, c_aX_3⟩
  refine rgTake 0 (some 19) rfl rfl (by kernel_rfl) (by kernel_rfl) (by kernel_rfl) (fun _ _ _ _ h => h) (by rfl) hHeld ?_ ?_ ?_; rotate_left
  · (intro w9 hSw; (try dsimp only at hSw); go_simp; try with_reducible rfl)
  try simp only [Act.put, List.setIfInBounds_toArray, List.set_cons_zero, List.set_cons_succ]
  refine rgTake 2 (some 21) rfl rfl (by kernel_rfl) (by kernel_rfl) (by kernel_rfl) (fun _ _ _ _ h => h) (by rfl) hHeld ?_ ?_ ?_; rotate_left
  · (intro w9 hSw; (try dsimp only at hSw); go_simp; try with_reducible rfl)
  try simp only [Act.put, List.setIfInBounds_toArray, List.set_cons_zero, List.set_cons_succ]
  refine rgStep 1 (by kernel_rfl) rfl (by rfl) (fun K hK => ?_)
  go_simp
  refine (toD_law hA0 (b3).drew hs0 HD0.out).mono ?_; rintro e W4 ⟨t0, rfl, own_t0, bel4⟩; have b4 := below_step bel4 (b3).drew; have s4 := bel4.size; have p4 : w.heap.size ≤ W4.heap.size := b4.size; have c_aD_0 := cell_later bel4 c_aD_0; have c_aX_0 := cell_later bel4 c_aX_0; have c_aX_1 := cell_later bel4 c_aX_1; have c_aX_2 := cell_later bel4 c_aX_2; have c_aX_3 := cell_later bel4 c_aX_3; obtain ⟨A_t0, c_t0, rfl⟩ := own_t0.slice
  (try go_wp2_with fail)
  refine hK.out _ _ ?_ (fun hHeld => ?_)
  · (try dsimp only); exact ⟨c_aD_0, c_aX_0, c_aX_1, c_aX_2, c_aX_3⟩
  clear hK K
  try simp only [Act.put, List.setIfInBounds_toArray, List.set_cons_zero, List.set_cons_succ]
  refine rgStep 3 (by kernel_rfl) rfl (by rfl) (fun K hK => ?_)
  go_simp
  refine (toDiag_any x1 _).mono ?_; rintro e W5 ⟨rfl, bel5⟩; have b5 := below_step bel5 b4; have s5 := bel5.size; have p5 : w.heap.size ≤ W5.heap.size := b5.size; have own_t0 := own_t0.keep (Out.of_below bel5 W4.heap.size W4.heap.size) (by omega); have c_aD_0 := cell_later bel5 c_aD_0; have c_aX_0 := cell_later bel5 c_aX_0; have c_aX_1 := cell_later bel5 c_aX_1; have c_aX_2 := cell_later bel5 c_aX_2; have c_aX_3 := cell_later bel5 c_aX_3
  (try go_wp2_with fail)
  refine hK.out _ _ ?_ (fun hHeld => ?_)
  · (try dsimp only); exact ⟨c_aD_0, c_aX_0, c_aX_1, c_aX_2, c_aX_3⟩
  clear hK K
  try simp only [Act.put, List.setIfInBounds_toArray, List.set_cons_zero, List.set_cons_succ]
  refine rgStep 4 (by kernel_rfl) rfl (by rfl) (fun K hK => ?_)
  go_simp
  refine (specDiag_law own_t0 ok_0.out ok1 hp1).mono ?_; rintro e W6 ⟨rfl, bel6⟩; have b6 := below_step bel6 b5; have s6 := bel6.size; have p6 : w.heap.size ≤ W6.heap.size := b6.size; have own_t0 := own_t0.keep (Out.of_below bel6 W5.heap.size W5.heap.size) (by omega); have c_aD_0 := cell_later bel6 c_aD_0; have c_aX_0 := cell_later bel6 c_aX_0; have c_aX_1 := cell_later bel6 c_aX_1; have c_aX_2 := cell_later bel6 c_aX_2; have c_aX_3 := cell_later bel6 c_aX_3; clear own_t0
  (try go_wp2_with fail)
  refine hK.out _ _ ?_ (fun hHeld => ?_)
  · (try dsimp only); exact ⟨c_aD_0, c_aX_0, c_aX_1, c_aX_2, c_aX_3⟩
  clear hK K
  try simp only [Act.put, List.setIfInBounds_toArray, List.set_cons_zero, List.set_cons_succ]
  refine rgTake 5 (some 6) rfl rfl (by kernel_rfl) (by kernel_rfl) (by kernel_rfl) (fun _ _ _ _ h => h) (by rfl) hHeld ?_ ?_ ?_; rotate_left
  · (intro w9 hSw; (try dsimp only at hSw); go_simp; try with_reducible rfl)
  try simp only [Act.put, List.setIfInBounds_toArray, List.set_cons_zero, List.set_cons_succ]
  refine wpAnyH_done (by kernel_rfl) ?_ _
  go_wp2_with fail
  refine (toD_law hA0 b6 hs0 HD0.out).mono ?_
  rintro e W7 ⟨x0, rfl, own_x0, bel7⟩
  have b7 := below_step bel7 b6
  have s7 := bel7.size
  have p7 : w.heap.size ≤ W7.heap.size := b7.size
  have c_aD_0 := cell_later bel7 c_aD_0
  have c_aX_0 := cell_later bel7 c_aX_0
  have c_aX_1 := cell_later bel7 c_aX_1
  have c_aX_2 := cell_later bel7 c_aX_2
  have c_aX_3 := cell_later bel7 c_aX_3
  obtain ⟨A_x0, c_x0, rfl⟩ := own_x0.slice
  have b8 : Below w.heap.size w (W7.alloc (.cells #[.slice A_x0 D0.length c_x0] 32)) := b7.alloc (b7).size _
  have z8 : (W7.alloc (.cells #[.slice A_x0 D0.length c_x0] 32)).heap.size = W7.heap.size + 1 := by simp
  have zl8 : w.heap.size ≤ W7.heap.size := (b7).size
  have c_aD_0 : (W7.alloc (.cells #[.slice A_x0 D0.length c_x0] 32)).cell? ⟨w.heap.size, 0, none⟩ = some (.slice Aa0 l0.length ca0) := cell_later ((Below.refl _ _).alloc (Nat.le_refl _) _) c_aD_0
  have c_aX_0 : (W7.alloc (.cells #[.slice A_x0 D0.length c_x0] 32)).cell? ⟨w.heap.size + 1, 0, none⟩ = some (.int .i64 x1.code) := cell_later ((Below.refl _ _).alloc (Nat.le_refl _) _) c_aX_0
  have c_aX_1 : (W7.alloc (.cells #[.slice A_x0 D0.length c_x0] 32)).cell? ⟨w.heap.size + 1, 1, none⟩ = some (.int .i64 x1.pos) := cell_later ((Below.refl _ _).alloc (Nat.le_refl _) _) c_aX_1
  have c_aX_2 : (W7.alloc (.cells #[.slice A_x0 D0.length c_x0] 32)).cell? ⟨w.heap.size + 1, 2, none⟩ = some (.string x1.path) := cell_later ((Below.refl _ _).alloc (Nat.le_refl _) _) c_aX_2
  have c_aX_3 : (W7.alloc (.cells #[.slice A_x0 D0.length c_x0] 32)).cell? ⟨w.heap.size + 1, 3, none⟩ = some (.int .i64 x1.rule) := cell_later ((Below.refl _ _).alloc (Nat.le_refl _) _) c_aX_3
  have own_x0 := own_x0.keep (Out.of_below ((Below.refl W7.heap.size W7).alloc (Nat.le_refl _) (.cells #[.slice A_x0 D0.length c_x0] 32)) W7.heap.size W7.heap.size) (by omega)
  have c_x0_0 : (W7.alloc (.cells #[.slice A_x0 D0.length c_x0] 32)).cell? ⟨W7.heap.size, 0, none⟩ = some (.slice A_x0 D0.length c_x0) := by simp [go_sem]
  go_wp2_with fail
  have own_x0 := own_x0.keep (Out.of_below ((Below.refl (W7.alloc (.cells #[.slice A_x0 D0.length c_x0] 32)).heap.size (W7.alloc (.cells #[.slice A_x0 D0.length c_x0] 32))).drew) 0 0) (by omega)
  have zd1 : (W7.alloc (.cells #[.slice A_x0 D0.length c_x0] 32)).drew.heap.size ≤ (W7.alloc (.cells #[.slice A_x0 D0.length c_x0] 32)).heap.size := Nat.le_refl _
  have zd2 : (W7.alloc (.cells #[.slice A_x0 D0.length c_x0] 32)).heap.size ≤ (W7.alloc (.cells #[.slice A_x0 D0.length c_x0] 32)).drew.heap.size := Nat.le_refl _
  refine wp_region_held_drew (S := (fun w9 => w9.cell? ⟨w.heap.size, 0, none⟩ = some (.slice Aa0 l0.length ca0) ∧ w9.cell? ⟨w.heap.size + 1, 0, none⟩ = some (.int .i64 x1.code) ∧ w9.cell? ⟨w.heap.size + 1, 1, none⟩ = some (.int .i64 x1.pos) ∧ w9.cell? ⟨w.heap.size + 1, 2, none⟩ = some (.string x1.path) ∧ w9.cell? ⟨w.heap.size + 1, 3, none⟩ = some (.int .i64 x1.rule) ∧ w9.cell? ⟨W7.heap.size, 0, none⟩ = some (.slice A_x0 D0.length c_x0))) (by kernel_rfl) ?_ (fun hHeld => ?_)
  · (try dsimp only); exact ⟨c_aD_0, c_aX_0, c_aX_1, c_aX_2, c_aX_3, c_x0_0⟩
  refine rgTake 0 (some 26) rfl rfl (by kernel_rfl) (by kernel_rfl) (by kernel_rfl) (fun _ _ _ _ h => h) (by rfl) hHeld ?_ ?_ ?_; rotate_left
  · (intro w9 hSw; (try dsimp only at hSw); go_simp; try with_reducible rfl)
  try simp only [Act.put, List.setIfInBounds_toArray, List.set_cons_zero, List.set_cons_succ]
  refine rgTake 1 (some 27) rfl rfl (by kernel_rfl) (by kernel_rfl) (by kernel_rfl) (fun _ _ _ _ h => h) (by rfl) hHeld ?_ ?_ ?_; rotate_left
  · (intro w9 hSw; (try dsimp only at hSw); go_simp; try with_reducible rfl)
  try simp only [Act.put, List.setIfInBounds_toArray, List.set_cons_zero, List.set_cons_succ]
  refine rgStep 2 (by kernel_rfl) rfl (by rfl) (fun K hK => ?_)
  go_simp
  refine (toDiag_any x1 _).mono ?_; rintro e W9 ⟨rfl, bel9⟩; have b9 := below_step bel9 (b8).drew; have s9 := bel9.size; have p9 : w.heap.size ≤ W9.heap.size := b9.size; have own_x0 := own_x0.keep (Out.of_below bel9 (W7.alloc (.cells #[.slice A_x0 D0.length c_x0] 32)).heap.size (W7.alloc (.cells #[.slice A_x0 D0.length c_x0] 32)).heap.size) (by omega); have c_aD_0 := cell_later bel9 c_aD_0; have c_aX_0 := cell_later bel9 c_aX_0; have c_aX_1 := cell_later bel9 c_aX_1; have c_aX_2 := cell_later bel9 c_aX_2; have c_aX_3 := cell_later bel9 c_aX_3; have c_x0_0 := cell_later bel9 c_x0_0
  (try go_wp2_with fail)
  refine hK.out _ _ ?_ (fun hHeld => ?_)
  · (try dsimp only); exact ⟨c_aD_0, c_aX_0, c_aX_1, c_aX_2, c_aX_3, c_x0_0⟩
  clear hK K
  try simp only [Act.put, List.setIfInBounds_toArray, List.set_cons_zero, List.set_cons_succ]
  refine rgStep 3 (by kernel_rfl) rfl (by rfl) (fun K hK => ?_)
  go_simp
  refine (implDiag_law own_x0 ok_0.out ok1 hp1 HTab.out b9).mono ?_; rintro e W10 ⟨rfl, bel10⟩; have b10 := below_step bel10 b9; have s10 := bel10.size; have p10 : w.heap.size ≤ W10.heap.size := b10.size; have own_x0 := own_x0.keep (Out.of_below bel10 W9.heap.size W9.heap.size) (by omega); have c_aD_0 := cell_later bel10 c_aD_0; have c_aX_0 := cell_later bel10 c_aX_0; have c_aX_1 := cell_later bel10 c_aX_1; have c_aX_2 := cell_later bel10 c_aX_2; have c_aX_3 := cell_later bel10 c_aX_3; have c_x0_0 := cell_later bel10 c_x0_0
  (try go_wp2_with fail)
  refine hK.out _ _ ?_ (fun hHeld => ?_)
  · (try dsimp only); exact ⟨c_aD_0, c_aX_0, c_aX_1, c_aX_2, c_aX_3, c_x0_0⟩
  clear hK K
  try simp only [Act.put, List.setIfInBounds_toArray, List.set_cons_zero, List.set_cons_succ]
  refine rgTake 4 (some 8) rfl rfl (by kernel_rfl) (by kernel_rfl) (by kernel_rfl) (fun _ _ _ _ h => h) (by rfl) hHeld ?_ ?_ ?_; rotate_left
  · (intro w9 hSw; (try dsimp only at hSw); go_simp; try with_reducible rfl)
  try simp only [Act.put, List.setIfInBounds_toArray, List.set_cons_zero, List.set_cons_succ]
  refine wpAnyH_done (by kernel_rfl) ?_ _
  go_wp2_with fail
  have own_x0 := own_x0.keep (Out.of_below ((Below.refl W10.heap.size W10).drew) 0 0) (by omega)
  have zd1 : W10.drew.heap.size ≤ W10.heap.size := Nat.le_refl _
  have zd2 : W10.heap.size ≤ W10.drew.heap.size := Nat.le_refl _
  refine wp_region_held_drew (S := (fun w9 => w9.cell? ⟨w.heap.size, 0, none⟩ = some (.slice Aa0 l0.length ca0) ∧ w9.cell? ⟨w.heap.size + 1, 0, none⟩ = some (.int .i64 x1.code) ∧ w9.cell? ⟨w.heap.size + 1, 1, none⟩ = some (.int .i64 x1.pos) ∧ w9.cell? ⟨w.heap.size + 1, 2, none⟩ = some (.string x1.path) ∧ w9.cell? ⟨w.heap.size + 1, 3, none⟩ = some (.int .i64 x1.rule) ∧ w9.cell? ⟨W7.heap.size, 0, none⟩ = some (.slice A_x0 D0.length c_x0))) (by kernel_rfl) ?_ (fun hHeld => ?_)
  · (try dsimp only); exact ⟨c_aD_0, c_aX_0, c_aX_1, c_aX_2, c_aX_3, c_x0_0⟩
  refine rgTake 0 (some 33) rfl rfl (by kernel_rfl) (by kernel_rfl) (by kernel_rfl) (fun _ _ _ _ h => h) (by rfl) hHeld ?_ ?_ ?_; rotate_left
  · (intro w9 hSw; (try dsimp only at hSw); go_simp; try with_reducible rfl)
  try simp only [Act.put, List.setIfInBounds_toArray, List.set_cons_zero, List.set_cons_succ]
  refine rgTake 1 (some 34) rfl rfl (by kernel_rfl) (by kernel_rfl) (by kernel_rfl) (fun _ _ _ _ h => h) (by rfl) hHeld ?_ ?_ ?_; rotate_left
  · (intro w9 hSw; (try dsimp only at hSw); go_simp; try with_reducible rfl)
  try simp only [Act.put, List.setIfInBounds_toArray, List.set_cons_zero, List.set_cons_succ]
  refine rgStep 2 (by kernel_rfl) rfl (by rfl) (fun K hK => ?_)
  go_simp
  refine (toD_law hA0 (b10).drew hs0 HD0.out).mono ?_; rintro e W11 ⟨t1, rfl, own_t1, bel11⟩; have b11 := below_step bel11 (b10).drew; have s11 := bel11.size; have p11 : w.heap.size ≤ W11.heap.size := b11.size; have own_x0 := own_x0.keep (Out.of_below bel11 W10.heap.size W10.heap.size) (by omega); have c_aD_0 := cell_later bel11 c_aD_0; have c_aX_0 := cell_later bel11 c_aX_0; have c_aX_1 := cell_later bel11 c_aX_1; have c_aX_2 := cell_later bel11 c_aX_2; have c_aX_3 := cell_later bel11 c_aX_3; have c_x0_0 := cell_later bel11 c_x0_0; obtain ⟨A_t1, c_t1, rfl⟩ := own_t1.slice
  (try go_wp2_with fail)
  refine hK.out _ _ ?_ (fun hHeld => ?_)
  · (try dsimp only); exact ⟨c_aD_0, c_aX_0, c_aX_1, c_aX_2, c_aX_3, c_x0_0⟩
  clear hK K
  try simp only [Act.put, List.setIfInBounds_toArray, List.set_cons_zero, List.set_cons_succ]
  refine rgStep 3 (by kernel_rfl) rfl (by rfl) (fun K hK => ?_)
  go_simp
  refine (eqD_law own_x0 own_t1).mono ?_; rintro e W12 ⟨rfl, bel12⟩; have b12 := below_step bel12 b11; have s12 := bel12.size; have p12 : w.heap.size ≤ W12.heap.size := b12.size; have own_x0 := own_x0.keep (Out.of_below bel12 W11.heap.size W11.heap.size) (by omega); have own_t1 := own_t1.keep (Out.of_below bel12 W11.heap.size W11.heap.size) (by omega); have c_aD_0 := cell_later bel12 c_aD_0; have c_aX_0 := cell_later bel12 c_aX_0; have c_aX_1 := cell_later bel12 c_aX_1; have c_aX_2 := cell_later bel12 c_aX_2; have c_aX_3 := cell_later bel12 c_aX_3; have c_x0_0 := cell_later bel12 c_x0_0; clear own_t1
  (try go_wp2_with fail)
  refine hK.out _ _ ?_ (fun hHeld => ?_)
  · (try dsimp only); exact ⟨c_aD_0, c_aX_0, c_aX_1, c_aX_2, c_aX_3, c_x0_0⟩
  clear hK K
  try simp only [Act.put, List.setIfInBounds_toArray, List.set_cons_zero, List.set_cons_succ]
  refine rgTake 4 (some 37) rfl rfl (by kernel_rfl) (by kernel_rfl) (by kernel_rfl) (fun _ _ _ _ h => h) (by rfl) hHeld ?_ ?_ ?_; rotate_left
  · (intro w9 hSw; (try dsimp only at hSw); go_simp; try with_reducible rfl)
  try simp only [Act.put, List.setIfInBounds_toArray, List.set_cons_zero, List.set_cons_succ]
  refine wpAnyH_done (by kernel_rfl) ?_ _
  have HB := Lib.hid b12
  clear own_x0 hA0 ok0
  go_wp2
  go_ret
  exact ⟨rfl, HB.out⟩
end Go.Proofs.YtkfmdkogifmfmaaDoor.FnExactFormatDiagnosis
