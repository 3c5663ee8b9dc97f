/- The walk of the law FnExactLeafEntries. No condition but those of its arguments. -/
import Derived.Test.YtnbemdcdokhknaaLeafE
import Derived.Test.YtnbemdcdokhknaaDescMk
import Derived.WalkSpells
import Derived.WalkLawsBesides
import Derived.Deep.RegionHeld3
namespace Go.Proofs.Ytnbemdcdokhknaa.FnExactLeafEntries
set_option linter.unusedSimpArgs false
set_option linter.unusedVariables false
open Go.RowKit
set_option maxHeartbeats 4000000 in
set_option maxRecDepth 100000 in
theorem walk (v0 : Value) (l0 : List RM) (v1 : Value) (l1 : List Ent) (w : World) (hA0 : SlD w w.heap.size v0 l0) (ok0 : ∀ r ∈ l0, r.d.ok) (hA1 : SlE w w.heap.size v1 l1) (ok1 : ∀ e ∈ l1, e.ok) :
    Calls Try.prog 3 #[.agg #[v0], v1] w fun e w' => e = .returned (.bool true) ∧ Below w.heap.size w w' := by
  obtain ⟨Aa0, ca0, rfl⟩ : ∃ A c, v0 = .slice A l0.length c := by obtain ⟨A, c, h, -⟩ := hA0.open_; exact ⟨A, c, h⟩
  obtain ⟨D0, hD0⟩ : ∃ D, l0.map RM.d = D := ⟨_, rfl⟩
  have HD0 := Lib.hid hD0
  clear hD0
  have hf0 : (l1.filter (leafB D0)).length ≤ l1.length := List.length_filter_le _ _
  go_enter Try.func3, Try.ntmps3
  have b0 : Below w.heap.size w (w.alloc (.cells #[.slice Aa0 l0.length ca0] 24)) := (Below.refl w.heap.size w).alloc ((Below.refl w.heap.size w)).size _
  have z0 : (w.alloc (.cells #[.slice Aa0 l0.length ca0] 24)).heap.size = w.heap.size + 1 := by simp
  have zl0 : w.heap.size ≤ w.heap.size := ((Below.refl w.heap.size w)).size
  have c_aD_0 : (w.alloc (.cells #[.slice Aa0 l0.length ca0] 24)).cell? ⟨w.heap.size, 0, none⟩ = some (.slice Aa0 l0.length ca0) := by simp [go_sem]
  go_wp2_with fail
  refine (szD_law hA0 b0 ok0 (by omega) (by omega)).mono ?_
  rintro e W1 ⟨z1, rfl, bel1, hr1⟩
  have b1 := below_step bel1 b0
  have s1 := bel1.size
  have p1 : w.heap.size ≤ W1.heap.size := b1.size
  have c_aD_0 := cell_later bel1 c_aD_0
  rcases hr1 with rfl | ⟨q1, y1, hs0⟩
  · have HB := Lib.hid b1
    clear hA0 ok0 hA1 ok1
    go_wp2
    go_ret
    exact ⟨rfl, HB.out⟩
  have ok_0 := Lib.hid (okD_of ok0 hs0 HD0.out)
  go_wp2_with fail
  refine (szE_law hA1 b1 ok1 z1 q1 (by omega)).mono ?_
  rintro e W2 ⟨z2, rfl, bel2, hr2⟩
  have b2 := below_step bel2 b1
  have s2 := bel2.size
  have p2 : w.heap.size ≤ W2.heap.size := b2.size
  have c_aD_0 := cell_later bel2 c_aD_0
  rcases hr2 with rfl | ⟨q2, y2, ⟨hl1, all1⟩⟩
  · have HB := Lib.hid b2
    clear hA0 ok0 hA1 ok1
    go_wp2
    go_ret
    exact ⟨rfl, HB.out⟩
  have HS1 := Lib.hid all1
  clear all1
  go_wp2_with fail
  refine (toD_law hA0 b2 hs0 HD0.out).mono ?_
  rintro e W3 ⟨t0, rfl, own_t0, bel3⟩
  have b3 := below_step bel3 b2
  have s3 := bel3.size
  have p3 : w.heap.size ≤ W3.heap.size := b3.size
  have c_aD_0 := cell_later bel3 c_aD_0
  obtain ⟨A_t0, c_t0, rfl⟩ := own_t0.slice
  go_wp2_with fail
  refine (toE_law hA1 b3 (by omega)).mono ?_
  rintro e W4 ⟨t1, rfl, own_t1, bel4⟩
  have b4 := below_step bel4 b3
  have s4 := bel4.size
  have p4 : w.heap.size ≤ W4.heap.size := b4.size
  have own_t0 := own_t0.keep (Out.of_below bel4 W3.heap.size W3.heap.size) (by omega)
  have c_aD_0 := cell_later bel4 c_aD_0
  go_wp2_with fail
  refine (specLeaf_law own_t0 own_t1 hl1).mono ?_
  rintro e W5 ⟨w0, rfl, own_w0, bel5⟩
  have b5 := below_step bel5 b4
  have s5 := bel5.size
  have p5 : w.heap.size ≤ W5.heap.size := b5.size
  have own_t0 := own_t0.keep (Out.of_below bel5 W4.heap.size W4.heap.size) (by omega)
  have own_t1 := own_t1.keep (Out.of_below bel5 W4.heap.size W4.heap.size) (by omega)
  have c_aD_0 := cell_later bel5 c_aD_0
  clear own_t0
  clear own_t1
  go_wp2_with fail
  refine (toD_law hA0 b5 hs0 HD0.out).mono ?_
  rintro e W6 ⟨x0, rfl, own_x0, bel6⟩
  have b6 := below_step bel6 b5
  have s6 := bel6.size
  have p6 : w.heap.size ≤ W6.heap.size := b6.size
  have own_w0 := own_w0.keep (Out.of_below bel6 W5.heap.size W5.heap.size) (by omega)
  have c_aD_0 := cell_later bel6 c_aD_0
  obtain ⟨A_x0, c_x0, rfl⟩ := own_x0.slice
  have b7 : Below w.heap.size w (W6.alloc (.cells #[.slice A_x0 D0.length c_x0] 32)) := b6.alloc (b6).size _
  have z7 : (W6.alloc (.cells #[.slice A_x0 D0.length c_x0] 32)).heap.size = W6.heap.size + 1 := by simp
  have zl7 : w.heap.size ≤ W6.heap.size := (b6).size
  have c_aD_0 : (W6.alloc (.cells #[.slice A_x0 D0.length c_x0] 32)).cell? ⟨w.heap.size, 0, none⟩ = some (.slice Aa0 l0.length ca0) := cell_later ((Below.refl _ _).alloc (Nat.le_refl _) _) c_aD_0
  have own_w0 := own_w0.keep (Out.of_below ((Below.refl W6.heap.size W6).alloc (Nat.le_refl _) (.cells #[.slice A_x0 D0.length c_x0] 32)) W6.heap.size W6.heap.size) (by omega)
  have own_x0 := own_x0.keep (Out.of_below ((Below.refl W6.heap.size W6).alloc (Nat.le_refl _) (.cells #[.slice A_x0 D0.length c_x0] 32)) W6.heap.size W6.heap.size) (by omega)
  have c_x0_0 : (W6.alloc (.cells #[.slice A_x0 D0.length c_x0] 32)).cell? ⟨W6.heap.size, 0, none⟩ = some (.slice A_x0 D0.length c_x0) := by simp [go_sem]
  go_wp2_with fail
  refine (toE_law hA1 b7 (by omega)).mono ?_
  rintro e W8 ⟨x1, rfl, own_x1, bel8⟩
  have b8 := below_step bel8 b7
  have s8 := bel8.size
  have p8 : w.heap.size ≤ W8.heap.size := b8.size
  have own_w0 := own_w0.keep (Out.of_below bel8 (W6.alloc (.cells #[.slice A_x0 D0.length c_x0] 32)).heap.size (W6.alloc (.cells #[.slice A_x0 D0.length c_x0] 32)).heap.size) (by omega)
  have own_x0 := own_x0.keep (Out.of_below bel8 (W6.alloc (.cells #[.slice A_x0 D0.length c_x0] 32)).heap.size (W6.alloc (.cells #[.slice A_x0 D0.length c_x0] 32)).heap.size) (by omega)
  have c_aD_0 := cell_later bel8 c_aD_0
  have c_x0_0 := cell_later bel8 c_x0_0
  go_wp2_with fail
  refine (implLeaf_law own_x0 own_x1 hl1).mono ?_
  rintro e W9 ⟨g0, rfl, own_g0, bel9⟩
  have b9 := below_step bel9 b8
  have s9 := bel9.size
  have p9 : w.heap.size ≤ W9.heap.size := b9.size
  have own_w0 := own_w0.keep (Out.of_below bel9 W8.heap.size W8.heap.size) (by omega)
  have own_x0 := own_x0.keep (Out.of_below bel9 W8.heap.size W8.heap.size) (by omega)
  have own_x1 := own_x1.keep (Out.of_below bel9 W8.heap.size W8.heap.size) (by omega)
  have c_aD_0 := cell_later bel9 c_aD_0
  have c_x0_0 := cell_later bel9 c_x0_0
  go_wp2_with fail
  refine (eqE_law own_g0 own_w0).mono ?_
  rintro e W10 ⟨rfl, bel10⟩
  have b10 := below_step bel10 b9
  have s10 := bel10.size
  have p10 : w.heap.size ≤ W10.heap.size := b10.size
  have own_w0 := own_w0.keep (Out.of_below bel10 W9.heap.size W9.heap.size) (by omega)
  have own_x0 := own_x0.keep (Out.of_below bel10 W9.heap.size W9.heap.size) (by omega)
  have own_x1 := own_x1.keep (Out.of_below bel10 W9.heap.size W9.heap.size) (by omega)
  have own_g0 := own_g0.keep (Out.of_below bel10 W9.heap.size W9.heap.size) (by omega)
  have c_aD_0 := cell_later bel10 c_aD_0
  have c_x0_0 := cell_later bel10 c_x0_0
  go_wp2_with fail
  have own_w0 := own_w0.keep (Out.of_below ((Below.refl W10.heap.size W10).drew) 0 0) (by omega)
  have own_x0 := own_x0.keep (Out.of_below ((Below.refl W10.heap.size W10).drew) 0 0) (by omega)
  have own_x1 := own_x1.keep (Out.of_below ((Below.refl W10.heap.size W10).drew) 0 0) (by omega)
  have own_g0 := own_g0.keep (Out.of_below ((Below.refl W10.heap.size W10).drew) 0 0) (by omega)
  have zd1 : W10.drew.heap.size ≤ W10.heap.size := Nat.le_refl _
  have zd2 : W10.heap.size ≤ W10.drew.heap.size := Nat.le_refl _
  refine wp_region_held_drew (S := (fun w9 => w9.cell? ⟨w.heap.size, 0, none⟩ = some (.slice Aa0 l0.length ca0) ∧ w9.cell? ⟨W6.heap.size, 0, none⟩ = some (.slice A_x0 D0.length c_x0))) (by kernel_rfl) ?_ (fun hHeld => ?_)
  · (try dsimp only); exact ⟨c_aD_0, c_x0_0⟩
  refine rgTake 0 (some 40) rfl rfl (by kernel_rfl) (by kernel_rfl) (by kernel_rfl) (fun _ _ _ _ h => h) (by rfl) hHeld ?_ ?_ ?_; rotate_left
  · (intro w9 hSw; (try dsimp only at hSw); go_simp; try with_reducible rfl)
  try simp only [Act.put, List.setIfInBounds_toArray, List.set_cons_zero, List.set_cons_succ]
  refine rgTake 1 (some 41) rfl rfl (by kernel_rfl) (by kernel_rfl) (by kernel_rfl) (fun _ _ _ _ h => h) (by rfl) hHeld ?_ ?_ ?_; rotate_left
  · (intro w9 hSw; (try dsimp only at hSw); go_simp; try with_reducible rfl)
  try simp only [Act.put, List.setIfInBounds_toArray, List.set_cons_zero, List.set_cons_succ]
  refine rgStep 2 (by kernel_rfl) rfl (by rfl) (fun K hK => ?_)
  go_simp
  refine (toD_law hA0 (b10).drew hs0 HD0.out).mono ?_; rintro e W11 ⟨t2, rfl, own_t2, bel11⟩; have b11 := below_step bel11 (b10).drew; have s11 := bel11.size; have p11 : w.heap.size ≤ W11.heap.size := b11.size; have own_w0 := own_w0.keep (Out.of_below bel11 W10.heap.size W10.heap.size) (by omega); have own_x0 := own_x0.keep (Out.of_below bel11 W10.heap.size W10.heap.size) (by omega); have own_x1 := own_x1.keep (Out.of_below bel11 W10.heap.size W10.heap.size) (by omega); have own_g0 := own_g0.keep (Out.of_below bel11 W10.heap.size W10.heap.size) (by omega); have c_aD_0 := cell_later bel11 c_aD_0; have c_x0_0 := cell_later bel11 c_x0_0; obtain ⟨A_t2, c_t2, rfl⟩ := own_t2.slice
  (try go_wp2_with fail)
  refine hK.out _ _ ?_ (fun hHeld => ?_)
  · (try dsimp only); exact ⟨c_aD_0, c_x0_0⟩
  clear hK K
  try simp only [Act.put, List.setIfInBounds_toArray, List.set_cons_zero, List.set_cons_succ]
  refine rgStep 3 (by kernel_rfl) rfl (by rfl) (fun K hK => ?_)
  go_simp
  refine (eqD_law own_x0 own_t2).mono ?_; rintro e W12 ⟨rfl, bel12⟩; have b12 := below_step bel12 b11; have s12 := bel12.size; have p12 : w.heap.size ≤ W12.heap.size := b12.size; have own_w0 := own_w0.keep (Out.of_below bel12 W11.heap.size W11.heap.size) (by omega); have own_x0 := own_x0.keep (Out.of_below bel12 W11.heap.size W11.heap.size) (by omega); have own_x1 := own_x1.keep (Out.of_below bel12 W11.heap.size W11.heap.size) (by omega); have own_g0 := own_g0.keep (Out.of_below bel12 W11.heap.size W11.heap.size) (by omega); have own_t2 := own_t2.keep (Out.of_below bel12 W11.heap.size W11.heap.size) (by omega); have c_aD_0 := cell_later bel12 c_aD_0; have c_x0_0 := cell_later bel12 c_x0_0; clear own_t2
  (try go_wp2_with fail)
  refine hK.out _ _ ?_ (fun hHeld => ?_)
  · (try dsimp only); exact ⟨c_aD_0, c_x0_0⟩
  clear hK K
  try simp only [Act.put, List.setIfInBounds_toArray, List.set_cons_zero, List.set_cons_succ]
  refine rgTake 4 (some 44) rfl rfl (by kernel_rfl) (by kernel_rfl) (by kernel_rfl) (fun _ _ _ _ h => h) (by rfl) hHeld ?_ ?_ ?_; rotate_left
  · (intro w9 hSw; (try dsimp only at hSw); go_simp; try with_reducible rfl)
  try simp only [Act.put, List.setIfInBounds_toArray, List.set_cons_zero, List.set_cons_succ]
  refine wpAnyH_done (by kernel_rfl) ?_ _
  go_wp2_with fail
  refine (toE_law hA1 b12 (by omega)).mono ?_
  rintro e W13 ⟨t3, rfl, own_t3, bel13⟩
  have b13 := below_step bel13 b12
  have s13 := bel13.size
  have p13 : w.heap.size ≤ W13.heap.size := b13.size
  have own_w0 := own_w0.keep (Out.of_below bel13 W12.heap.size W12.heap.size) (by omega)
  have own_x0 := own_x0.keep (Out.of_below bel13 W12.heap.size W12.heap.size) (by omega)
  have own_x1 := own_x1.keep (Out.of_below bel13 W12.heap.size W12.heap.size) (by omega)
  have own_g0 := own_g0.keep (Out.of_below bel13 W12.heap.size W12.heap.size) (by omega)
  have c_aD_0 := cell_later bel13 c_aD_0
  have c_x0_0 := cell_later bel13 c_x0_0
  go_wp2_with fail
  refine (eqE_law own_x1 own_t3).mono ?_
  rintro e W14 ⟨rfl, bel14⟩
  have b14 := below_step bel14 b13
  have s14 := bel14.size
  have p14 : w.heap.size ≤ W14.heap.size := b14.size
  have own_w0 := own_w0.keep (Out.of_below bel14 W13.heap.size W13.heap.size) (by omega)
  have own_x0 := own_x0.keep (Out.of_below bel14 W13.heap.size W13.heap.size) (by omega)
  have own_x1 := own_x1.keep (Out.of_below bel14 W13.heap.size W13.heap.size) (by omega)
  have own_g0 := own_g0.keep (Out.of_below bel14 W13.heap.size W13.heap.size) (by omega)
  have own_t3 := own_t3.keep (Out.of_below bel14 W13.heap.size W13.heap.size) (by omega)
  have c_aD_0 := cell_later bel14 c_aD_0
  have c_x0_0 := cell_later bel14 c_x0_0
  clear own_t3
  go_wp2_with fail
  refine (markD_law own_x0 1 (by omega) (by omega) (by rw [← HD0.out, List.length_map]; exact hs0.1) ok_0.out.sm).mono ?_
  rintro e W15 ⟨rr15, rfl, ge15, gk15, le15, out15⟩
  have b15 := Out.below out15 b14 (by omega)
  have s15 := out15.size
  have p15 : w.heap.size ≤ W15.heap.size := b15.size
  clear own_x0
  have own_w0 := own_w0.keep out15 (by omega)
  have own_x1 := own_x1.keep out15 (by omega)
  have own_g0 := own_g0.keep out15 (by omega)
  have c_aD_0 : W15.cell? ⟨w.heap.size, 0, none⟩ = some (.slice Aa0 l0.length ca0) := out15.cell (p := ⟨w.heap.size, 0, none⟩) c_aD_0 (by show w.heap.size < _ ∨ _ ≤ w.heap.size; omega)
  have c_x0_0 : W15.cell? ⟨W6.heap.size, 0, none⟩ = some (.slice A_x0 D0.length c_x0) := out15.cell (p := ⟨W6.heap.size, 0, none⟩) c_x0_0 (by show W6.heap.size < _ ∨ _ ≤ W6.heap.size; omega)
  go_wp2_with fail
  refine (markE_law own_x1 rr15 (by omega) (by omega) (by omega)).mono ?_
  rintro e W16 ⟨rr16, rfl, ge16, le16, mk_x1, out16⟩
  have b16 := Out.below out16 b15 (by omega)
  have s16 := out16.size
  have p16 : w.heap.size ≤ W16.heap.size := b16.size
  clear own_x1
  have own_w0 := own_w0.keep out16 (by omega)
  have own_g0 := own_g0.keep out16 (by omega)
  have c_aD_0 : W16.cell? ⟨w.heap.size, 0, none⟩ = some (.slice Aa0 l0.length ca0) := out16.cell (p := ⟨w.heap.size, 0, none⟩) c_aD_0 (by show w.heap.size < _ ∨ _ ≤ w.heap.size; omega)
  have c_x0_0 : W16.cell? ⟨W6.heap.size, 0, none⟩ = some (.slice A_x0 D0.length c_x0) := out16.cell (p := ⟨W6.heap.size, 0, none⟩) c_x0_0 (by show W6.heap.size < _ ∨ _ ≤ W6.heap.size; omega)
  clear mk_x1
  go_wp2_with fail
  refine (eqE_law own_g0 own_w0).mono ?_
  rintro e W17 ⟨rfl, bel17⟩
  have b17 := below_step bel17 b16
  have s17 := bel17.size
  have p17 : w.heap.size ≤ W17.heap.size := b17.size
  have own_w0 := own_w0.keep (Out.of_below bel17 W16.heap.size W16.heap.size) (by omega)
  have own_g0 := own_g0.keep (Out.of_below bel17 W16.heap.size W16.heap.size) (by omega)
  have c_aD_0 := cell_later bel17 c_aD_0
  have c_x0_0 := cell_later bel17 c_x0_0
  go_wp2_with fail
  refine (markE_law own_g0 1 (by omega) (by omega) (by omega)).mono ?_
  rintro e W18 ⟨rr18, rfl, ge18, le18, mk_g0, out18⟩
  have b18 := Out.below out18 b17 (by omega)
  have s18 := out18.size
  have p18 : w.heap.size ≤ W18.heap.size := b18.size
  clear own_g0
  have own_w0 := own_w0.keep out18 (by omega)
  have c_aD_0 : W18.cell? ⟨w.heap.size, 0, none⟩ = some (.slice Aa0 l0.length ca0) := out18.cell (p := ⟨w.heap.size, 0, none⟩) c_aD_0 (by show w.heap.size < _ ∨ _ ≤ w.heap.size; omega)
  have c_x0_0 : W18.cell? ⟨W6.heap.size, 0, none⟩ = some (.slice A_x0 D0.length c_x0) := out18.cell (p := ⟨W6.heap.size, 0, none⟩) c_x0_0 (by show W6.heap.size < _ ∨ _ ≤ W6.heap.size; omega)
  go_wp2_with fail
  refine (heldE_law mk_g0).mono ?_
  rintro e W19 ⟨rfl, bel19⟩
  have b19 := below_step bel19 b18
  have s19 := bel19.size
  have p19 : w.heap.size ≤ W19.heap.size := b19.size
  have own_w0 := own_w0.keep (Out.of_below bel19 W18.heap.size W18.heap.size) (by omega)
  have mk_g0 := mk_g0.keep (Out.of_below bel19 W18.heap.size W18.heap.size) (by omega)
  have c_aD_0 := cell_later bel19 c_aD_0
  have c_x0_0 := cell_later bel19 c_x0_0
  go_wp2_with fail
  refine (toD_law hA0 b19 hs0 HD0.out).mono ?_
  rintro e W20 ⟨t4, rfl, own_t4, bel20⟩
  have b20 := below_step bel20 b19
  have s20 := bel20.size
  have p20 : w.heap.size ≤ W20.heap.size := b20.size
  have own_w0 := own_w0.keep (Out.of_below bel20 W19.heap.size W19.heap.size) (by omega)
  have mk_g0 := mk_g0.keep (Out.of_below bel20 W19.heap.size W19.heap.size) (by omega)
  have c_aD_0 := cell_later bel20 c_aD_0
  have c_x0_0 := cell_later bel20 c_x0_0
  obtain ⟨A_t4, c_t4, rfl⟩ := own_t4.slice
  go_wp2_with fail
  refine (toE_law hA1 b20 (by omega)).mono ?_
  rintro e W21 ⟨t5, rfl, own_t5, bel21⟩
  have b21 := below_step bel21 b20
  have s21 := bel21.size
  have p21 : w.heap.size ≤ W21.heap.size := b21.size
  have own_w0 := own_w0.keep (Out.of_below bel21 W20.heap.size W20.heap.size) (by omega)
  have mk_g0 := mk_g0.keep (Out.of_below bel21 W20.heap.size W20.heap.size) (by omega)
  have own_t4 := own_t4.keep (Out.of_below bel21 W20.heap.size W20.heap.size) (by omega)
  have c_aD_0 := cell_later bel21 c_aD_0
  have c_x0_0 := cell_later bel21 c_x0_0
  go_wp2_with fail
  refine (implLeaf_law own_t4 own_t5 hl1).mono ?_
  rintro e W22 ⟨h0, rfl, own_h0, bel22⟩
  have b22 := below_step bel22 b21
  have s22 := bel22.size
  have p22 : w.heap.size ≤ W22.heap.size := b22.size
  have own_w0 := own_w0.keep (Out.of_below bel22 W21.heap.size W21.heap.size) (by omega)
  have mk_g0 := mk_g0.keep (Out.of_below bel22 W21.heap.size W21.heap.size) (by omega)
  have own_t4 := own_t4.keep (Out.of_below bel22 W21.heap.size W21.heap.size) (by omega)
  have own_t5 := own_t5.keep (Out.of_below bel22 W21.heap.size W21.heap.size) (by omega)
  have c_aD_0 := cell_later bel22 c_aD_0
  have c_x0_0 := cell_later bel22 c_x0_0
  clear own_t4
  clear own_t5
  go_wp2_with fail
  refine (eqE_law own_h0 own_w0).mono ?_
  rintro e W23 ⟨rfl, bel23⟩
  have b23 := below_step bel23 b22
  have s23 := bel23.size
  have p23 : w.heap.size ≤ W23.heap.size := b23.size
  have own_w0 := own_w0.keep (Out.of_below bel23 W22.heap.size W22.heap.size) (by omega)
  have mk_g0 := mk_g0.keep (Out.of_below bel23 W22.heap.size W22.heap.size) (by omega)
  have own_h0 := own_h0.keep (Out.of_below bel23 W22.heap.size W22.heap.size) (by omega)
  have c_aD_0 := cell_later bel23 c_aD_0
  have c_x0_0 := cell_later bel23 c_x0_0
  go_wp2_with fail
  refine (heldE_law mk_g0).mono ?_
  rintro e W24 ⟨rfl, bel24⟩
  have b24 := below_step bel24 b23
  have s24 := bel24.size
  have p24 : w.heap.size ≤ W24.heap.size := b24.size
  have own_w0 := own_w0.keep (Out.of_below bel24 W23.heap.size W23.heap.size) (by omega)
  have mk_g0 := mk_g0.keep (Out.of_below bel24 W23.heap.size W23.heap.size) (by omega)
  have own_h0 := own_h0.keep (Out.of_below bel24 W23.heap.size W23.heap.size) (by omega)
  have c_aD_0 := cell_later bel24 c_aD_0
  have c_x0_0 := cell_later bel24 c_x0_0
  have HB := Lib.hid b24
  clear own_w0 mk_g0 own_h0 hA0 ok0 hA1 ok1
  go_wp2
  go_ret
  exact ⟨rfl, HB.out⟩
end Go.Proofs.Ytnbemdcdokhknaa.FnExactLeafEntries
