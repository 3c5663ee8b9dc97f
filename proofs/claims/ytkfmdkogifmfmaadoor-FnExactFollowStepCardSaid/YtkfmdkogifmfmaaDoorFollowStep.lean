/- The walk of the law FnExactFollowStep. No condition but those of its arguments. -/
import Derived.Test.YtkfmdkogifmfmaaDoorFolL
import Derived.Test.YtkfmdkogifmfmaaDoorDescO
import Derived.Test.YtkfmdkogifmfmaaDoorDescEq
import Derived.WalkSpells
import Derived.WalkLawsBesides
import Derived.Deep.RegionHeld3
namespace Go.Proofs.YtkfmdkogifmfmaaDoor.FnExactFollowStep
set_option linter.unusedSimpArgs false
set_option linter.unusedVariables false
open Go.RowKit
set_option maxHeartbeats 4000000 in
set_option maxRecDepth 100000 in
theorem walk (v0 : Value) (l0 : List RM) (a1 : Int) (e2 : VM) (a3 : ByteArray) (w : World) (hA0 : SlD w w.heap.size v0 l0) (ok0 : ∀ r ∈ l0, r.d.ok) (hA1 : -9223372036854775808 ≤ a1 ∧ a1 ≤ 9223372036854775807) (hA2 : e2.rd w w.heap.size) (ok2 : e2.d.ok) (hA3 : a3.size ≤ maxLen) (htab : Tab w) :
    Calls Tryd.prog 5 #[.agg #[v0], .int .i64 a1, vmV e2, .string a3] w fun e w' => e = .returned (.bool true) ∧ Below w.heap.size w w' := by
  obtain ⟨Aa0, ca0, rfl⟩ : ∃ A c, v0 = .slice A l0.length c := by obtain ⟨A, c, h, -⟩ := hA0.open_; exact ⟨A, c, h⟩
  obtain ⟨D0, hD0⟩ : ∃ D, l0.map RM.d = D := ⟨_, rfl⟩
  have HD0 := Lib.hid hD0
  clear hD0
  obtain ⟨nn2, bb2, vb2, vi2, ll2⟩ := e2
  obtain ⟨Av2, cv2, ev2, -⟩ := hA2.bytes.open_
  obtain ⟨Aw2, cw2, ew2, -⟩ := hA2.its.open_
  simp only [VM.vb_mk, VM.b_mk, VM.vi_mk, VM.items_mk] at ev2 ew2
  subst ev2 ew2
  obtain ⟨X2, hX2⟩ : ∃ X, (VM.mk nn2 bb2 (.slice Av2 bb2.length cv2) (.slice Aw2 ll2.length cw2) ll2).d = X := ⟨_, rfl⟩
  have HV2 := Lib.hid (And.intro hA2 hX2)
  clear hA2 hX2 ok2
  simp only [vmV, VM.n_mk, VM.vb_mk, VM.vi_mk]
  have HTab := Lib.hid htab
  clear htab
  have hA3' := hA3
  unfold maxLen at hA3'
  by_cases big3 : 1048576 < (a3.size : Int)
  · clear hA0 ok0 hA3
    go_enter Tryd.func5, Tryd.ntmps5
    go_wp2
    go_ret
    exact ⟨rfl, (by repeat (first | exact Below.refl _ _ | assumption | refine Below.alloc ?_ (by first | omega | (simp <;> omega)) _ | refine Below.setCell ?_ (by first | omega | (simp <;> omega)) _ | refine Below.drew ?_ | refine below_drewN ?_ _))⟩
  have hl3 : a3.size ≤ 1048576 := by omega
  clear big3
  go_enter Tryd.func5, Tryd.ntmps5
  have b0 : Below w.heap.size w (w.alloc (.cells #[.slice Aa0 l0.length ca0] 24)) := (Below.refl w.heap.size w).alloc ((Below.refl w.heap.size w)).size _
  have z0 : (w.alloc (.cells #[.slice Aa0 l0.length ca0] 24)).heap.size = w.heap.size + 1 := by simp
  have zl0 : w.heap.size ≤ w.heap.size := ((Below.refl w.heap.size w)).size
  have c_aD_0 : (w.alloc (.cells #[.slice Aa0 l0.length ca0] 24)).cell? ⟨w.heap.size, 0, none⟩ = some (.slice Aa0 l0.length ca0) := by simp [go_sem]
  have b1 : Below w.heap.size w ((w.alloc (.cells #[.slice Aa0 l0.length ca0] 24)).alloc (.cells #[.int .i64 nn2, .slice Av2 bb2.length cv2, .slice Aw2 ll2.length cw2] 43)) := b0.alloc (b0).size _
  have z1 : ((w.alloc (.cells #[.slice Aa0 l0.length ca0] 24)).alloc (.cells #[.int .i64 nn2, .slice Av2 bb2.length cv2, .slice Aw2 ll2.length cw2] 43)).heap.size = (w.alloc (.cells #[.slice Aa0 l0.length ca0] 24)).heap.size + 1 := by simp
  have zl1 : w.heap.size ≤ (w.alloc (.cells #[.slice Aa0 l0.length ca0] 24)).heap.size := (b0).size
  have c_aD_0 : ((w.alloc (.cells #[.slice Aa0 l0.length ca0] 24)).alloc (.cells #[.int .i64 nn2, .slice Av2 bb2.length cv2, .slice Aw2 ll2.length cw2] 43)).cell? ⟨w.heap.size, 0, none⟩ = some (.slice Aa0 l0.length ca0) := cell_later ((Below.refl _ _).alloc (Nat.le_refl _) _) c_aD_0
  have c_aV_0 : ((w.alloc (.cells #[.slice Aa0 l0.length ca0] 24)).alloc (.cells #[.int .i64 nn2, .slice Av2 bb2.length cv2, .slice Aw2 ll2.length cw2] 43)).cell? ⟨w.heap.size + 1, 0, none⟩ = some (.int .i64 nn2) := by simp [go_sem]
  have c_aV_1 : ((w.alloc (.cells #[.slice Aa0 l0.length ca0] 24)).alloc (.cells #[.int .i64 nn2, .slice Av2 bb2.length cv2, .slice Aw2 ll2.length cw2] 43)).cell? ⟨w.heap.size + 1, 1, none⟩ = some (.slice Av2 bb2.length cv2) := by simp [go_sem]
  have c_aV_2 : ((w.alloc (.cells #[.slice Aa0 l0.length ca0] 24)).alloc (.cells #[.int .i64 nn2, .slice Av2 bb2.length cv2, .slice Aw2 ll2.length cw2] 43)).cell? ⟨w.heap.size + 1, 2, none⟩ = some (.slice Aw2 ll2.length cw2) := by simp [go_sem]
  go_wp2_with fail
  refine (szD_law hA0 b1 ok0 (by omega) (by omega)).mono ?_
  rintro e W2 ⟨z2, rfl, bel2, hr2⟩
  have b2 := below_step bel2 b1
  have s2 := bel2.size
  have p2 : w.heap.size ≤ W2.heap.size := b2.size
  have c_aD_0 := cell_later bel2 c_aD_0
  have c_aV_0 := cell_later bel2 c_aV_0
  have c_aV_1 := cell_later bel2 c_aV_1
  have c_aV_2 := cell_later bel2 c_aV_2
  rcases hr2 with rfl | ⟨q2, y2, hs0⟩
  · have HB := Lib.hid b2
    clear hA0 ok0 hA3
    go_wp2
    go_ret
    exact ⟨rfl, HB.out⟩
  have ok_0 := Lib.hid (okD_of ok0 hs0 HD0.out)
  go_wp2_with fail
  refine (szV_law HV2.out.1 HV2.out.2 rfl b2 q2 (by omega)).mono ?_
  rintro e W3 ⟨z3, rfl, bel3, hr3⟩
  have b3 := below_step bel3 b2
  have s3 := bel3.size
  have p3 : w.heap.size ≤ W3.heap.size := b3.size
  have c_aD_0 := cell_later bel3 c_aD_0
  have c_aV_0 := cell_later bel3 c_aV_0
  have c_aV_1 := cell_later bel3 c_aV_1
  have c_aV_2 := cell_later bel3 c_aV_2
  rcases hr3 with rfl | ⟨q3, y3, hs2⟩
  · have HB := Lib.hid b3
    clear hA0 ok0 hA3
    go_wp2
    go_ret
    exact ⟨rfl, HB.out⟩
  go_wp2_with fail
  have zd1 : W3.drew.heap.size ≤ W3.heap.size := Nat.le_refl _
  have zd2 : W3.heap.size ≤ W3.drew.heap.size := Nat.le_refl _
  refine wp_region_held_drew (S := (fun w9 => w9.cell? ⟨w.heap.size, 0, none⟩ = some (.slice Aa0 l0.length ca0) ∧ w9.cell? ⟨w.heap.size + 1, 0, none⟩ = some (.int .i64 nn2) ∧ w9.cell? ⟨w.heap.size + 1, 1, none⟩ = some (.slice Av2 bb2.length cv2) ∧ w9.cell? ⟨w.heap.size + 1, 2, none⟩ = some (.slice Aw2 ll2.length cw2))) (by kernel_rfl) ?_ (fun hHeld => ?_)
  · (try dsimp only); exact ⟨c_aD_0, c_aV_0, c_aV_1, c_aV_2⟩
  refine rgTake 0 (some 27) rfl rfl (by kernel_rfl) (by kernel_rfl) (by kernel_rfl) (fun _ _ _ _ h => h) (by rfl) hHeld ?_ ?_ ?_; rotate_left
  · (intro w9 hSw; (try dsimp only at hSw); go_simp; try with_reducible rfl)
  try simp only [Act.put, List.setIfInBounds_toArray, List.set_cons_zero, List.set_cons_succ]
  refine rgTake 2 (some 29) rfl rfl (by kernel_rfl) (by kernel_rfl) (by kernel_rfl) (fun _ _ _ _ h => h) (by rfl) hHeld ?_ ?_ ?_; rotate_left
  · (intro w9 hSw; (try dsimp only at hSw); go_simp; try with_reducible rfl)
  try simp only [Act.put, List.setIfInBounds_toArray, List.set_cons_zero, List.set_cons_succ]
  refine rgTake 3 (some 30) rfl rfl (by kernel_rfl) (by kernel_rfl) (by kernel_rfl) (fun _ _ _ _ h => h) (by rfl) hHeld ?_ ?_ ?_; rotate_left
  · (intro w9 hSw; (try dsimp only at hSw); go_simp; try with_reducible rfl)
  try simp only [Act.put, List.setIfInBounds_toArray, List.set_cons_zero, List.set_cons_succ]
  refine rgTake 5 (some 32) rfl rfl (by kernel_rfl) (by kernel_rfl) (by kernel_rfl) (fun _ _ _ _ h => h) (by rfl) hHeld ?_ ?_ ?_; rotate_left
  · (intro w9 hSw; (try dsimp only at hSw); go_simp; try with_reducible rfl)
  try simp only [Act.put, List.setIfInBounds_toArray, List.set_cons_zero, List.set_cons_succ]
  refine rgStep 1 (by kernel_rfl) rfl (by rfl) (fun K hK => ?_)
  go_simp
  refine (toD_law hA0 (b3).drew hs0 HD0.out).mono ?_; rintro e W4 ⟨t0, rfl, own_t0, bel4⟩; have b4 := below_step bel4 (b3).drew; have s4 := bel4.size; have p4 : w.heap.size ≤ W4.heap.size := b4.size; have c_aD_0 := cell_later bel4 c_aD_0; have c_aV_0 := cell_later bel4 c_aV_0; have c_aV_1 := cell_later bel4 c_aV_1; have c_aV_2 := cell_later bel4 c_aV_2; obtain ⟨A_t0, c_t0, rfl⟩ := own_t0.slice
  (try go_wp2_with fail)
  refine hK.out _ _ ?_ (fun hHeld => ?_)
  · (try dsimp only); exact ⟨c_aD_0, c_aV_0, c_aV_1, c_aV_2⟩
  clear hK K
  try simp only [Act.put, List.setIfInBounds_toArray, List.set_cons_zero, List.set_cons_succ]
  refine rgStep 4 (by kernel_rfl) rfl (by rfl) (fun K hK => ?_)
  go_simp
  refine (toV_law HV2.out.1 HV2.out.2 rfl b4 hs2).mono ?_; rintro e W5 ⟨u_t1, rfl, own_t1, bel5⟩; have b5 := below_step bel5 b4; have s5 := bel5.size; have p5 : w.heap.size ≤ W5.heap.size := b5.size; have own_t0 := own_t0.keep (Out.of_below bel5 W4.heap.size W4.heap.size) (by omega); have c_aD_0 := cell_later bel5 c_aD_0; have c_aV_0 := cell_later bel5 c_aV_0; have c_aV_1 := cell_later bel5 c_aV_1; have c_aV_2 := cell_later bel5 c_aV_2; obtain ⟨Ap_t1, cp_t1, Aq_t1, cq_t1, rfl⟩ := own_t1.agg
  (try go_wp2_with fail)
  refine hK.out _ _ ?_ (fun hHeld => ?_)
  · (try dsimp only); exact ⟨c_aD_0, c_aV_0, c_aV_1, c_aV_2⟩
  clear hK K
  try simp only [Act.put, List.setIfInBounds_toArray, List.set_cons_zero, List.set_cons_succ]
  refine rgStep 6 (by kernel_rfl) rfl (by rfl) (fun K hK => ?_)
  go_simp
  refine (specFollow_law own_t0 ok_0.out own_t1 hs2).mono ?_; rintro e W6 ⟨rfl, bel6⟩; have b6 := below_step bel6 b5; have s6 := bel6.size; have p6 : w.heap.size ≤ W6.heap.size := b6.size; have own_t0 := own_t0.keep (Out.of_below bel6 W5.heap.size W5.heap.size) (by omega); have own_t1 := own_t1.keep (Out.of_below bel6 W5.heap.size W5.heap.size) (by omega); have c_aD_0 := cell_later bel6 c_aD_0; have c_aV_0 := cell_later bel6 c_aV_0; have c_aV_1 := cell_later bel6 c_aV_1; have c_aV_2 := cell_later bel6 c_aV_2; clear own_t0; clear own_t1
  (try go_wp2_with fail)
  refine hK.out _ _ ?_ (fun hHeld => ?_)
  · (try dsimp only); exact ⟨c_aD_0, c_aV_0, c_aV_1, c_aV_2⟩
  clear hK K
  try simp only [Act.put, List.setIfInBounds_toArray, List.set_cons_zero, List.set_cons_succ]
  refine rgTake 7 (some 10) rfl rfl (by kernel_rfl) (by kernel_rfl) (by kernel_rfl) (fun _ _ _ _ h => h) (by rfl) hHeld ?_ ?_ ?_; rotate_left
  · (intro w9 hSw; (try dsimp only at hSw); go_simp; try with_reducible rfl)
  try simp only [Act.put, List.setIfInBounds_toArray, List.set_cons_zero, List.set_cons_succ]
  refine wpAnyH_done (by kernel_rfl) ?_ _
  go_wp2_with fail
  refine (toD_law hA0 b6 hs0 HD0.out).mono ?_
  rintro e W7 ⟨x0, rfl, own_x0, bel7⟩
  have b7 := below_step bel7 b6
  have s7 := bel7.size
  have p7 : w.heap.size ≤ W7.heap.size := b7.size
  have c_aD_0 := cell_later bel7 c_aD_0
  have c_aV_0 := cell_later bel7 c_aV_0
  have c_aV_1 := cell_later bel7 c_aV_1
  have c_aV_2 := cell_later bel7 c_aV_2
  obtain ⟨A_x0, c_x0, rfl⟩ := own_x0.slice
  have b8 : Below w.heap.size w (W7.alloc (.cells #[.slice A_x0 D0.length c_x0] 32)) := b7.alloc (b7).size _
  have z8 : (W7.alloc (.cells #[.slice A_x0 D0.length c_x0] 32)).heap.size = W7.heap.size + 1 := by simp
  have zl8 : w.heap.size ≤ W7.heap.size := (b7).size
  have c_aD_0 : (W7.alloc (.cells #[.slice A_x0 D0.length c_x0] 32)).cell? ⟨w.heap.size, 0, none⟩ = some (.slice Aa0 l0.length ca0) := cell_later ((Below.refl _ _).alloc (Nat.le_refl _) _) c_aD_0
  have c_aV_0 : (W7.alloc (.cells #[.slice A_x0 D0.length c_x0] 32)).cell? ⟨w.heap.size + 1, 0, none⟩ = some (.int .i64 nn2) := cell_later ((Below.refl _ _).alloc (Nat.le_refl _) _) c_aV_0
  have c_aV_1 : (W7.alloc (.cells #[.slice A_x0 D0.length c_x0] 32)).cell? ⟨w.heap.size + 1, 1, none⟩ = some (.slice Av2 bb2.length cv2) := cell_later ((Below.refl _ _).alloc (Nat.le_refl _) _) c_aV_1
  have c_aV_2 : (W7.alloc (.cells #[.slice A_x0 D0.length c_x0] 32)).cell? ⟨w.heap.size + 1, 2, none⟩ = some (.slice Aw2 ll2.length cw2) := cell_later ((Below.refl _ _).alloc (Nat.le_refl _) _) c_aV_2
  have own_x0 := own_x0.keep (Out.of_below ((Below.refl W7.heap.size W7).alloc (Nat.le_refl _) (.cells #[.slice A_x0 D0.length c_x0] 32)) W7.heap.size W7.heap.size) (by omega)
  have c_x0_0 : (W7.alloc (.cells #[.slice A_x0 D0.length c_x0] 32)).cell? ⟨W7.heap.size, 0, none⟩ = some (.slice A_x0 D0.length c_x0) := by simp [go_sem]
  go_wp2_with fail
  refine (toV_law HV2.out.1 HV2.out.2 rfl b8 hs2).mono ?_
  rintro e W9 ⟨u_x2, rfl, own_x2, bel9⟩
  have b9 := below_step bel9 b8
  have s9 := bel9.size
  have p9 : w.heap.size ≤ W9.heap.size := b9.size
  have own_x0 := own_x0.keep (Out.of_below bel9 (W7.alloc (.cells #[.slice A_x0 D0.length c_x0] 32)).heap.size (W7.alloc (.cells #[.slice A_x0 D0.length c_x0] 32)).heap.size) (by omega)
  have c_aD_0 := cell_later bel9 c_aD_0
  have c_aV_0 := cell_later bel9 c_aV_0
  have c_aV_1 := cell_later bel9 c_aV_1
  have c_aV_2 := cell_later bel9 c_aV_2
  have c_x0_0 := cell_later bel9 c_x0_0
  obtain ⟨Ap_x2, cp_x2, Aq_x2, cq_x2, rfl⟩ := own_x2.agg
  have b10 : Below w.heap.size w (W9.alloc (.cells #[.int .i64 X2.n, .slice Ap_x2 X2.b.length cp_x2, .slice Aq_x2 X2.items.length cq_x2] 48)) := b9.alloc (b9).size _
  have z10 : (W9.alloc (.cells #[.int .i64 X2.n, .slice Ap_x2 X2.b.length cp_x2, .slice Aq_x2 X2.items.length cq_x2] 48)).heap.size = W9.heap.size + 1 := by simp
  have zl10 : w.heap.size ≤ W9.heap.size := (b9).size
  have c_aD_0 : (W9.alloc (.cells #[.int .i64 X2.n, .slice Ap_x2 X2.b.length cp_x2, .slice Aq_x2 X2.items.length cq_x2] 48)).cell? ⟨w.heap.size, 0, none⟩ = some (.slice Aa0 l0.length ca0) := cell_later ((Below.refl _ _).alloc (Nat.le_refl _) _) c_aD_0
  have c_aV_0 : (W9.alloc (.cells #[.int .i64 X2.n, .slice Ap_x2 X2.b.length cp_x2, .slice Aq_x2 X2.items.length cq_x2] 48)).cell? ⟨w.heap.size + 1, 0, none⟩ = some (.int .i64 nn2) := cell_later ((Below.refl _ _).alloc (Nat.le_refl _) _) c_aV_0
  have c_aV_1 : (W9.alloc (.cells #[.int .i64 X2.n, .slice Ap_x2 X2.b.length cp_x2, .slice Aq_x2 X2.items.length cq_x2] 48)).cell? ⟨w.heap.size + 1, 1, none⟩ = some (.slice Av2 bb2.length cv2) := cell_later ((Below.refl _ _).alloc (Nat.le_refl _) _) c_aV_1
  have c_aV_2 : (W9.alloc (.cells #[.int .i64 X2.n, .slice Ap_x2 X2.b.length cp_x2, .slice Aq_x2 X2.items.length cq_x2] 48)).cell? ⟨w.heap.size + 1, 2, none⟩ = some (.slice Aw2 ll2.length cw2) := cell_later ((Below.refl _ _).alloc (Nat.le_refl _) _) c_aV_2
  have c_x0_0 : (W9.alloc (.cells #[.int .i64 X2.n, .slice Ap_x2 X2.b.length cp_x2, .slice Aq_x2 X2.items.length cq_x2] 48)).cell? ⟨W7.heap.size, 0, none⟩ = some (.slice A_x0 D0.length c_x0) := cell_later ((Below.refl _ _).alloc (Nat.le_refl _) _) c_x0_0
  have own_x0 := own_x0.keep (Out.of_below ((Below.refl W9.heap.size W9).alloc (Nat.le_refl _) (.cells #[.int .i64 X2.n, .slice Ap_x2 X2.b.length cp_x2, .slice Aq_x2 X2.items.length cq_x2] 48)) W9.heap.size W9.heap.size) (by omega)
  have own_x2 := own_x2.keep (Out.of_below ((Below.refl W9.heap.size W9).alloc (Nat.le_refl _) (.cells #[.int .i64 X2.n, .slice Ap_x2 X2.b.length cp_x2, .slice Aq_x2 X2.items.length cq_x2] 48)) W9.heap.size W9.heap.size) (by omega)
  have c_x2_0 : (W9.alloc (.cells #[.int .i64 X2.n, .slice Ap_x2 X2.b.length cp_x2, .slice Aq_x2 X2.items.length cq_x2] 48)).cell? ⟨W9.heap.size, 0, none⟩ = some (.int .i64 X2.n) := by simp [go_sem]
  have c_x2_1 : (W9.alloc (.cells #[.int .i64 X2.n, .slice Ap_x2 X2.b.length cp_x2, .slice Aq_x2 X2.items.length cq_x2] 48)).cell? ⟨W9.heap.size, 1, none⟩ = some (.slice Ap_x2 X2.b.length cp_x2) := by simp [go_sem]
  have c_x2_2 : (W9.alloc (.cells #[.int .i64 X2.n, .slice Ap_x2 X2.b.length cp_x2, .slice Aq_x2 X2.items.length cq_x2] 48)).cell? ⟨W9.heap.size, 2, none⟩ = some (.slice Aq_x2 X2.items.length cq_x2) := by simp [go_sem]
  go_wp2_with fail
  refine (implFollow_law own_x0 ok_0.out own_x2 hs2 (by unfold maxLen; omega) HTab.out b10).mono ?_
  rintro e W11 ⟨rfl, bel11⟩
  have b11 := below_step bel11 b10
  have s11 := bel11.size
  have p11 : w.heap.size ≤ W11.heap.size := b11.size
  have own_x0 := own_x0.keep (Out.of_below bel11 (W9.alloc (.cells #[.int .i64 X2.n, .slice Ap_x2 X2.b.length cp_x2, .slice Aq_x2 X2.items.length cq_x2] 48)).heap.size (W9.alloc (.cells #[.int .i64 X2.n, .slice Ap_x2 X2.b.length cp_x2, .slice Aq_x2 X2.items.length cq_x2] 48)).heap.size) (by omega)
  have own_x2 := own_x2.keep (Out.of_below bel11 (W9.alloc (.cells #[.int .i64 X2.n, .slice Ap_x2 X2.b.length cp_x2, .slice Aq_x2 X2.items.length cq_x2] 48)).heap.size (W9.alloc (.cells #[.int .i64 X2.n, .slice Ap_x2 X2.b.length cp_x2, .slice Aq_x2 X2.items.length cq_x2] 48)).heap.size) (by omega)
  have c_aD_0 := cell_later bel11 c_aD_0
  have c_aV_0 := cell_later bel11 c_aV_0
  have c_aV_1 := cell_later bel11 c_aV_1
  have c_aV_2 := cell_later bel11 c_aV_2
  have c_x0_0 := cell_later bel11 c_x0_0
  have c_x2_0 := cell_later bel11 c_x2_0
  have c_x2_1 := cell_later bel11 c_x2_1
  have c_x2_2 := cell_later bel11 c_x2_2
  go_wp2_with fail
  have own_x0 := own_x0.keep (Out.of_below ((Below.refl W11.heap.size W11).drew) 0 0) (by omega)
  have own_x2 := own_x2.keep (Out.of_below ((Below.refl W11.heap.size W11).drew) 0 0) (by omega)
  have zd1 : W11.drew.heap.size ≤ W11.heap.size := Nat.le_refl _
  have zd2 : W11.heap.size ≤ W11.drew.heap.size := Nat.le_refl _
  refine wp_region_held_drew (S := (fun w9 => w9.cell? ⟨w.heap.size, 0, none⟩ = some (.slice Aa0 l0.length ca0) ∧ w9.cell? ⟨w.heap.size + 1, 0, none⟩ = some (.int .i64 nn2) ∧ w9.cell? ⟨w.heap.size + 1, 1, none⟩ = some (.slice Av2 bb2.length cv2) ∧ w9.cell? ⟨w.heap.size + 1, 2, none⟩ = some (.slice Aw2 ll2.length cw2) ∧ w9.cell? ⟨W7.heap.size, 0, none⟩ = some (.slice A_x0 D0.length c_x0) ∧ w9.cell? ⟨W9.heap.size, 0, none⟩ = some (.int .i64 X2.n) ∧ w9.cell? ⟨W9.heap.size, 1, none⟩ = some (.slice Ap_x2 X2.b.length cp_x2) ∧ w9.cell? ⟨W9.heap.size, 2, none⟩ = some (.slice Aq_x2 X2.items.length cq_x2))) (by kernel_rfl) ?_ (fun hHeld => ?_)
  · (try dsimp only); exact ⟨c_aD_0, c_aV_0, c_aV_1, c_aV_2, c_x0_0, c_x2_0, c_x2_1, c_x2_2⟩
  refine rgTake 0 (some 46) rfl rfl (by kernel_rfl) (by kernel_rfl) (by kernel_rfl) (fun _ _ _ _ h => h) (by rfl) hHeld ?_ ?_ ?_; rotate_left
  · (intro w9 hSw; (try dsimp only at hSw); go_simp; try with_reducible rfl)
  try simp only [Act.put, List.setIfInBounds_toArray, List.set_cons_zero, List.set_cons_succ]
  refine rgTake 1 (some 47) rfl rfl (by kernel_rfl) (by kernel_rfl) (by kernel_rfl) (fun _ _ _ _ h => h) (by rfl) hHeld ?_ ?_ ?_; rotate_left
  · (intro w9 hSw; (try dsimp only at hSw); go_simp; try with_reducible rfl)
  try simp only [Act.put, List.setIfInBounds_toArray, List.set_cons_zero, List.set_cons_succ]
  refine rgStep 2 (by kernel_rfl) rfl (by rfl) (fun K hK => ?_)
  go_simp
  refine (toD_law hA0 (b11).drew hs0 HD0.out).mono ?_; rintro e W12 ⟨t2, rfl, own_t2, bel12⟩; have b12 := below_step bel12 (b11).drew; have s12 := bel12.size; have p12 : w.heap.size ≤ W12.heap.size := b12.size; have own_x0 := own_x0.keep (Out.of_below bel12 W11.heap.size W11.heap.size) (by omega); have own_x2 := own_x2.keep (Out.of_below bel12 W11.heap.size W11.heap.size) (by omega); have c_aD_0 := cell_later bel12 c_aD_0; have c_aV_0 := cell_later bel12 c_aV_0; have c_aV_1 := cell_later bel12 c_aV_1; have c_aV_2 := cell_later bel12 c_aV_2; have c_x0_0 := cell_later bel12 c_x0_0; have c_x2_0 := cell_later bel12 c_x2_0; have c_x2_1 := cell_later bel12 c_x2_1; have c_x2_2 := cell_later bel12 c_x2_2; obtain ⟨A_t2, c_t2, rfl⟩ := own_t2.slice
  (try go_wp2_with fail)
  refine hK.out _ _ ?_ (fun hHeld => ?_)
  · (try dsimp only); exact ⟨c_aD_0, c_aV_0, c_aV_1, c_aV_2, c_x0_0, c_x2_0, c_x2_1, c_x2_2⟩
  clear hK K
  try simp only [Act.put, List.setIfInBounds_toArray, List.set_cons_zero, List.set_cons_succ]
  refine rgStep 3 (by kernel_rfl) rfl (by rfl) (fun K hK => ?_)
  go_simp
  refine (eqD_law own_x0 own_t2).mono ?_; rintro e W13 ⟨rfl, bel13⟩; have b13 := below_step bel13 b12; have s13 := bel13.size; have p13 : w.heap.size ≤ W13.heap.size := b13.size; have own_x0 := own_x0.keep (Out.of_below bel13 W12.heap.size W12.heap.size) (by omega); have own_x2 := own_x2.keep (Out.of_below bel13 W12.heap.size W12.heap.size) (by omega); have own_t2 := own_t2.keep (Out.of_below bel13 W12.heap.size W12.heap.size) (by omega); have c_aD_0 := cell_later bel13 c_aD_0; have c_aV_0 := cell_later bel13 c_aV_0; have c_aV_1 := cell_later bel13 c_aV_1; have c_aV_2 := cell_later bel13 c_aV_2; have c_x0_0 := cell_later bel13 c_x0_0; have c_x2_0 := cell_later bel13 c_x2_0; have c_x2_1 := cell_later bel13 c_x2_1; have c_x2_2 := cell_later bel13 c_x2_2; clear own_t2
  (try go_wp2_with fail)
  refine hK.out _ _ ?_ (fun hHeld => ?_)
  · (try dsimp only); exact ⟨c_aD_0, c_aV_0, c_aV_1, c_aV_2, c_x0_0, c_x2_0, c_x2_1, c_x2_2⟩
  clear hK K
  try simp only [Act.put, List.setIfInBounds_toArray, List.set_cons_zero, List.set_cons_succ]
  refine rgTake 4 (some 50) rfl rfl (by kernel_rfl) (by kernel_rfl) (by kernel_rfl) (fun _ _ _ _ h => h) (by rfl) hHeld ?_ ?_ ?_; rotate_left
  · (intro w9 hSw; (try dsimp only at hSw); go_simp; try with_reducible rfl)
  try simp only [Act.put, List.setIfInBounds_toArray, List.set_cons_zero, List.set_cons_succ]
  refine wpAnyH_done (by kernel_rfl) ?_ _
  go_wp2_with fail
  have own_x0 := own_x0.keep (Out.of_below ((Below.refl W13.heap.size W13).drew) 0 0) (by omega)
  have own_x2 := own_x2.keep (Out.of_below ((Below.refl W13.heap.size W13).drew) 0 0) (by omega)
  have zd1 : W13.drew.heap.size ≤ W13.heap.size := Nat.le_refl _
  have zd2 : W13.heap.size ≤ W13.drew.heap.size := Nat.le_refl _
  refine wp_region_held_drew (S := (fun w9 => w9.cell? ⟨w.heap.size, 0, none⟩ = some (.slice Aa0 l0.length ca0) ∧ w9.cell? ⟨w.heap.size + 1, 0, none⟩ = some (.int .i64 nn2) ∧ w9.cell? ⟨w.heap.size + 1, 1, none⟩ = some (.slice Av2 bb2.length cv2) ∧ w9.cell? ⟨w.heap.size + 1, 2, none⟩ = some (.slice Aw2 ll2.length cw2) ∧ w9.cell? ⟨W7.heap.size, 0, none⟩ = some (.slice A_x0 D0.length c_x0) ∧ w9.cell? ⟨W9.heap.size, 0, none⟩ = some (.int .i64 X2.n) ∧ w9.cell? ⟨W9.heap.size, 1, none⟩ = some (.slice Ap_x2 X2.b.length cp_x2) ∧ w9.cell? ⟨W9.heap.size, 2, none⟩ = some (.slice Aq_x2 X2.items.length cq_x2))) (by kernel_rfl) ?_ (fun hHeld => ?_)
  · (try dsimp only); exact ⟨c_aD_0, c_aV_0, c_aV_1, c_aV_2, c_x0_0, c_x2_0, c_x2_1, c_x2_2⟩
  refine rgTake 0 (some 51) rfl rfl (by kernel_rfl) (by kernel_rfl) (by kernel_rfl) (fun _ _ _ _ h => h) (by rfl) hHeld ?_ ?_ ?_; rotate_left
  · (intro w9 hSw; (try dsimp only at hSw); go_simp; try with_reducible rfl)
  try simp only [Act.put, List.setIfInBounds_toArray, List.set_cons_zero, List.set_cons_succ]
  refine rgTake 1 (some 52) rfl rfl (by kernel_rfl) (by kernel_rfl) (by kernel_rfl) (fun _ _ _ _ h => h) (by rfl) hHeld ?_ ?_ ?_; rotate_left
  · (intro w9 hSw; (try dsimp only at hSw); go_simp; try with_reducible rfl)
  try simp only [Act.put, List.setIfInBounds_toArray, List.set_cons_zero, List.set_cons_succ]
  refine rgStep 2 (by kernel_rfl) rfl (by rfl) (fun K hK => ?_)
  go_simp
  refine (toV_law HV2.out.1 HV2.out.2 rfl (b13).drew hs2).mono ?_; rintro e W14 ⟨u_t3, rfl, own_t3, bel14⟩; have b14 := below_step bel14 (b13).drew; have s14 := bel14.size; have p14 : w.heap.size ≤ W14.heap.size := b14.size; have own_x0 := own_x0.keep (Out.of_below bel14 W13.heap.size W13.heap.size) (by omega); have own_x2 := own_x2.keep (Out.of_below bel14 W13.heap.size W13.heap.size) (by omega); have c_aD_0 := cell_later bel14 c_aD_0; have c_aV_0 := cell_later bel14 c_aV_0; have c_aV_1 := cell_later bel14 c_aV_1; have c_aV_2 := cell_later bel14 c_aV_2; have c_x0_0 := cell_later bel14 c_x0_0; have c_x2_0 := cell_later bel14 c_x2_0; have c_x2_1 := cell_later bel14 c_x2_1; have c_x2_2 := cell_later bel14 c_x2_2; obtain ⟨Ap_t3, cp_t3, Aq_t3, cq_t3, rfl⟩ := own_t3.agg
  (try go_wp2_with fail)
  refine hK.out _ _ ?_ (fun hHeld => ?_)
  · (try dsimp only); exact ⟨c_aD_0, c_aV_0, c_aV_1, c_aV_2, c_x0_0, c_x2_0, c_x2_1, c_x2_2⟩
  clear hK K
  try simp only [Act.put, List.setIfInBounds_toArray, List.set_cons_zero, List.set_cons_succ]
  refine rgStep 3 (by kernel_rfl) rfl (by rfl) (fun K hK => ?_)
  go_simp
  refine (eqV_law own_x2 own_t3).mono ?_; rintro e W15 ⟨rfl, bel15⟩; have b15 := below_step bel15 b14; have s15 := bel15.size; have p15 : w.heap.size ≤ W15.heap.size := b15.size; have own_x0 := own_x0.keep (Out.of_below bel15 W14.heap.size W14.heap.size) (by omega); have own_x2 := own_x2.keep (Out.of_below bel15 W14.heap.size W14.heap.size) (by omega); have own_t3 := own_t3.keep (Out.of_below bel15 W14.heap.size W14.heap.size) (by omega); have c_aD_0 := cell_later bel15 c_aD_0; have c_aV_0 := cell_later bel15 c_aV_0; have c_aV_1 := cell_later bel15 c_aV_1; have c_aV_2 := cell_later bel15 c_aV_2; have c_x0_0 := cell_later bel15 c_x0_0; have c_x2_0 := cell_later bel15 c_x2_0; have c_x2_1 := cell_later bel15 c_x2_1; have c_x2_2 := cell_later bel15 c_x2_2; clear own_t3
  (try go_wp2_with fail)
  refine hK.out _ _ ?_ (fun hHeld => ?_)
  · (try dsimp only); exact ⟨c_aD_0, c_aV_0, c_aV_1, c_aV_2, c_x0_0, c_x2_0, c_x2_1, c_x2_2⟩
  clear hK K
  try simp only [Act.put, List.setIfInBounds_toArray, List.set_cons_zero, List.set_cons_succ]
  refine rgTake 4 (some 55) rfl rfl (by kernel_rfl) (by kernel_rfl) (by kernel_rfl) (fun _ _ _ _ h => h) (by rfl) hHeld ?_ ?_ ?_; rotate_left
  · (intro w9 hSw; (try dsimp only at hSw); go_simp; try with_reducible rfl)
  try simp only [Act.put, List.setIfInBounds_toArray, List.set_cons_zero, List.set_cons_succ]
  refine wpAnyH_done (by kernel_rfl) ?_ _
  have HB := Lib.hid b15
  clear own_x0 own_x2 hA0 ok0 hA3
  go_wp2
  go_ret
  exact ⟨rfl, HB.out⟩
end Go.Proofs.YtkfmdkogifmfmaaDoor.FnExactFollowStep
