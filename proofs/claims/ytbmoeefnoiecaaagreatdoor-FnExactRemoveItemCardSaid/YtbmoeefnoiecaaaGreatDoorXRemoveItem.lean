/- The walk of the law FnExactRemoveItem. No condition but those of its arguments. -/
import Derived.Test.YtbmoeefnoiecaaaGreatDoorXRemL
import Derived.Test.YtbmoeefnoiecaaaGreatDoorGf
import Derived.Test.YtbmoeefnoiecaaaGreatDoorGa
import Derived.Test.YtbmoeefnoiecaaaGreatDoorGv
import Derived.WalkSpells
import Derived.WalkLawsBesides
import Derived.Deep.RegionHeld3
namespace Go.Proofs.YtbmoeefnoiecaaaGreatDoor.FnExactRemoveItem
set_option linter.unusedSimpArgs false
set_option linter.unusedVariables false
open Go.RowKit
set_option maxHeartbeats 4000000 in
set_option maxRecDepth 100000 in
theorem walk (v0 : Value) (l0 : List RM) (e1 : VM) (a2 : ByteArray) (a3 : Int) (w : World) (hA0 : SlD w w.heap.size v0 l0) (ok0 : ∀ r ∈ l0, r.d.ok) (hA1 : e1.rd w w.heap.size) (ok1 : e1.d.ok) (hA2 : a2.size ≤ maxLen) (hA3 : -9223372036854775808 ≤ a3 ∧ a3 ≤ 9223372036854775807) (htab : Tab w) :
  Calls Tryz.prog 6 #[.agg #[v0], vmV e1, .string a2, .int .i64 a3] w fun e w' => e = .returned (.bool true) ∧ Below w.heap.size w w' := by
 obtain ⟨Aa0, ca0, rfl⟩ : ∃ A c, v0 = .slice A l0.length c := by obtain ⟨A, c, h, -⟩ := hA0.open_; exact ⟨A, c, h⟩
 obtain ⟨D0, hD0⟩ : ∃ D, l0.map RM.d = D := ⟨_, rfl⟩
 have HD0 := Lib.hid hD0
 clear hD0
 obtain ⟨nn1, bb1, vb1, vi1, ll1⟩ := e1
 obtain ⟨Av1, cv1, ev1, -⟩ := hA1.bytes.open_
 obtain ⟨Aw1, cw1, ew1, -⟩ := hA1.its.open_
 simp only [VM.vb_mk, VM.b_mk, VM.vi_mk, VM.items_mk] at ev1 ew1
 subst ev1 ew1
 obtain ⟨X1, hX1⟩ : ∃ X, (VM.mk nn1 bb1 (.slice Av1 bb1.length cv1) (.slice Aw1 ll1.length cw1) ll1).d = X := ⟨_, rfl⟩
 have HV1 := Lib.hid (And.intro hA1 hX1)
 clear hA1 hX1 ok1
 simp only [vmV, VM.n_mk, VM.vb_mk, VM.vi_mk]
 have HTab := Lib.hid htab
 clear htab
 have HA3 := Lib.hid hA3
 obtain ⟨FX, FB, hF⟩ : ∃ a b, editV D0 X1 (spOk isStep a2) (spL isStep a2) (remC D0 a3) = (a, b) := ⟨_, _, rfl⟩
 have hFs := remV_bound hF
 have HF := Lib.hid (And.intro hF True.intro)
 clear hF
 have hA2' := hA2
 unfold maxLen at hA2'
 by_cases big2 : 1048576 < (a2.size : Int)
 ·clear hA0 ok0 hA2
  go_enter Tryz.func6, Tryz.ntmps6
  go_wp2
  go_ret
  exact ⟨rfl, (by repeat (first | exact Below.refl _ _ | assumption | refine Below.alloc ?_ (by first | omega | (simp <;> omega)) _ | refine Below.setCell ?_ (by first | omega | (simp <;> omega)) _ | refine Below.drew ?_ | refine below_drewN ?_ _))⟩
 have hl2 : a2.size ≤ 1048576 := by omega
 clear big2
 go_enter Tryz.func6, Tryz.ntmps6
 have b0 : Below w.heap.size w (w.alloc (.cells #[.slice Aa0 l0.length ca0] 24)) := (Below.refl w.heap.size w).alloc ((Below.refl w.heap.size w)).size _
 have z0 : (w.alloc (.cells #[.slice Aa0 l0.length ca0] 24)).heap.size = w.heap.size + 1 := by simp
 have zl0 : w.heap.size ≤ w.heap.size := ((Below.refl w.heap.size w)).size
 have K_aD : K1 (w.alloc (.cells #[.slice Aa0 l0.length ca0] 24)) (w.heap.size) (.slice Aa0 l0.length ca0) := ⟨by simp [go_sem]⟩
 have b1 : Below w.heap.size w ((w.alloc (.cells #[.slice Aa0 l0.length ca0] 24)).alloc (.cells #[.int .i64 nn1, .slice Av1 bb1.length cv1, .slice Aw1 ll1.length cw1] 28)) := b0.alloc (b0).size _
 have z1 : ((w.alloc (.cells #[.slice Aa0 l0.length ca0] 24)).alloc (.cells #[.int .i64 nn1, .slice Av1 bb1.length cv1, .slice Aw1 ll1.length cw1] 28)).heap.size = (w.alloc (.cells #[.slice Aa0 l0.length ca0] 24)).heap.size + 1 := by simp
 have zl1 : w.heap.size ≤ (w.alloc (.cells #[.slice Aa0 l0.length ca0] 24)).heap.size := (b0).size
 have K_aD := K_aD.alloc (.cells #[.int .i64 nn1, .slice Av1 bb1.length cv1, .slice Aw1 ll1.length cw1] 28)
 have K_aV : K3 ((w.alloc (.cells #[.slice Aa0 l0.length ca0] 24)).alloc (.cells #[.int .i64 nn1, .slice Av1 bb1.length cv1, .slice Aw1 ll1.length cw1] 28)) (w.heap.size + 1) (.int .i64 nn1) (.slice Av1 bb1.length cv1) (.slice Aw1 ll1.length cw1) := ⟨by simp [go_sem], by simp [go_sem], by simp [go_sem]⟩
 have c_aD_0 := K_aD.c0
 go_wp2_with fail
 refine (szD_law hA0 b1 ok0 (by omega) (by omega)).mono ?_
 rintro e W2 ⟨z2, rfl, bel2, hr2⟩
 have b2 := below_step bel2 b1
 have s2 := bel2.size
 have p2 : w.heap.size ≤ W2.heap.size := b2.size
 have c_aD_0 := cell_later bel2 c_aD_0
 have K_aD := K_aD.later bel2
 have K_aV := K_aV.later bel2
 rcases hr2 with rfl | ⟨q2, y2, hs0⟩
 ·have HB := Lib.hid b2
  clear hA0 ok0 hA2
  go_wp2
  go_ret
  exact ⟨rfl, HB.out⟩
 have ok_0 := Lib.hid (okD_of ok0 hs0 HD0.out)
 clear c_aD_0
 have c_aV_0 := K_aV.c0
 have c_aV_1 := K_aV.c1
 have c_aV_2 := K_aV.c2
 go_wp2_with fail
 refine (szV_law HV1.out.1 HV1.out.2 rfl b2 q2 (by omega)).mono ?_
 rintro e W3 ⟨z3, rfl, bel3, hr3⟩
 have b3 := below_step bel3 b2
 have s3 := bel3.size
 have p3 : w.heap.size ≤ W3.heap.size := b3.size
 have c_aV_0 := cell_later bel3 c_aV_0
 have c_aV_1 := cell_later bel3 c_aV_1
 have c_aV_2 := cell_later bel3 c_aV_2
 have K_aD := K_aD.later bel3
 have K_aV := K_aV.later bel3
 rcases hr3 with rfl | ⟨q3, y3, hs1⟩
 ·have HB := Lib.hid b3
  clear hA0 ok0 hA2
  go_wp2
  go_ret
  exact ⟨rfl, HB.out⟩
 clear c_aV_0 c_aV_1 c_aV_2
 have c_aD_0 := K_aD.c0
 have c_aV_0 := K_aV.c0
 have c_aV_1 := K_aV.c1
 have c_aV_2 := K_aV.c2
 go_upto_region 10 with fail
 go_cut [10, 11] (fun s10 s11 wx => ∃ (bq : Nat) (A1 : Option Addr) (c1 : Nat) (A2 : Option Addr) (c2 lo hi : Nat), s10 = .pointer (some ⟨bq, 0, none⟩) ∧ s11 = .bool FB ∧ B3 wx bq (.int .i64 FX.n) (.slice A1 FX.b.length c1) (.slice A2 FX.items.length c2) ∧ OwV FX lo hi wx (.agg #[.int .i64 FX.n, .slice A1 FX.b.length c1, .slice A2 FX.items.length c2]) ∧ W3.heap.size ≤ lo ∧ True ∧ hi ≤ wx.heap.size ∧ W3.heap.size ≤ bq ∧ Below W3.heap.size W3 wx)
 case first =>
  have bq := (Below.refl W3.heap.size W3).drew
  go_wp2_with fail
  refine wp_region_held_drew (S := (fun w9 => w9.cell? ⟨w.heap.size, 0, none⟩ = some (.slice Aa0 l0.length ca0) ∧ w9.cell? ⟨w.heap.size + 1, 0, none⟩ = some (.int .i64 nn1) ∧ w9.cell? ⟨w.heap.size + 1, 1, none⟩ = some (.slice Av1 bb1.length cv1) ∧ w9.cell? ⟨w.heap.size + 1, 2, none⟩ = some (.slice Aw1 ll1.length cw1))) (by kernel_rfl) ?_ (fun hHeld => ?_)
  ·(try dsimp only); exact ⟨c_aD_0, c_aV_0, c_aV_1, c_aV_2⟩
  refine rgTake 0 (some 35) hHeld _ ?_; try go_frame
  refine rgTake 2 (some 37) hHeld _ ?_; try go_frame
  refine rgTake 4 (some 39) hHeld _ ?_; try go_frame
  refine rgTake 5 (some 40) hHeld _ ?_; try go_frame
  refine rgTwo 1 10 (by kernel_rfl) rfl rfl (by rfl) (by rfl) (fun K hK => ?_) (fun K hK => ?_)
  ·go_simp
   refine (toD_law hA0 (below_step bq b3) hs0 HD0.out).mono ?_; rintro e wq ⟨t0, rfl, own_t0, bel⟩; have bq := below_step bel bq; (try have hgr := zB.lt); (try have zB := zB.later bel); obtain ⟨A_t0, c_t0, rfl⟩ := own_t0.slice
   (try go_wp2_with fail)
   refine hK.out _ _ ?_ (fun hHeld => ?_)
   ·(try dsimp only); exact ⟨cell_later bq c_aD_0, cell_later bq c_aV_0, cell_later bq c_aV_1, cell_later bq c_aV_2⟩
   clear hK K
   try go_frame
   refine rgTwo 3 10 (by kernel_rfl) rfl rfl (by rfl) (by rfl) (fun K hK => ?_) (fun K hK => ?_)
   ·go_simp
    refine (toV_law HV1.out.1 HV1.out.2 rfl (below_step bq b3) hs1).mono ?_; rintro e wq ⟨u_t1, rfl, own_t1, bel⟩; have bq := below_step bel bq; have own_t0 := own_t0.keep (Out.of_below bel 0 0) (.inr (Nat.zero_le _)); (try have hgr := zB.lt); (try have zB := zB.later bel); obtain ⟨Ap_t1, cp_t1, Aq_t1, cq_t1, rfl⟩ := own_t1.agg
    (try go_wp2_with fail)
    refine hK.out _ _ ?_ (fun hHeld => ?_)
    ·(try dsimp only); exact ⟨cell_later bq c_aD_0, cell_later bq c_aV_0, cell_later bq c_aV_1, cell_later bq c_aV_2⟩
    clear hK K
    try go_frame
    refine rgTwo 6 10 (by kernel_rfl) rfl rfl (by rfl) (by rfl) (fun K hK => ?_) (fun K hK => ?_)
    ·go_simp
     refine (specRem_law own_t0 ok_0.out own_t1 hs1 hl2 HA3.out HF.out.1).mono ?_; rintro e wq ⟨vr, rfl, own_r, bel⟩; have hlo := bq.size; have bq := below_step bel bq; (try have hgr := zB.lt); (try have zB := zB.later bel); obtain ⟨Ar1, cr1, Ar2, cr2, rfl⟩ := own_r.agg
     (try go_wp2_with fail)
     refine hK.out _ _ ?_ (fun hHeld => ?_)
     ·(try dsimp only); exact ⟨cell_later bq c_aD_0, cell_later bq c_aV_0, cell_later bq c_aV_1, cell_later bq c_aV_2⟩
     clear hK K
     try go_frame
     refine rgTake 7 (some 34) hHeld _ ?_; try go_frame
     refine rgTake 8 (some 42) hHeld _ ?_; try go_frame
     refine rgTake 9 (some 43) hHeld _ ?_; try go_frame
     refine rgStep 10 (fun K hK => ?_)
     (try go_simp)
     have hge := bq.size; first | (have zB := b3_zero bq; have bq := bq.alloc bq.size zO; (try have own_t0 := own_t0.bal zO); (try have own_t1 := own_t1.bal zO); (try have own_r := own_r.bal zO); generalize wq.alloc zO = wa at *) | (have zB : B3 (W3.alloc zO).drew W3.heap.size (.int .i64 0) (.slice none 0 0) (.slice none 0 0) := b3_zero bq; have bq : Below W3.heap.size W3 (W3.alloc zO).drew := bq.alloc bq.size zO; generalize (W3.alloc zO).drew = wa at *)
     refine hK.out _ _ ?_ (fun hHeld => ?_)
     ·(try dsimp only); exact ⟨cell_later bq c_aD_0, cell_later bq c_aV_0, cell_later bq c_aV_1, cell_later bq c_aV_2⟩
     clear hK K
     try go_frame
     refine rgStep 11 (fun K hK => ?_)
     (try go_simp)
     have own_r := own_r.set3 (by first | exact .inr hgr | exact .inl (Nat.le_refl _)) (.int .i64 FX.n) (.slice Ar1 FX.b.length cr1) (.slice Ar2 FX.items.length cr2); have bq := below_set3 bq hge (.int .i64 FX.n) (.slice Ar1 FX.b.length cr1) (.slice Ar2 FX.items.length cr2); have zB0 := zB; obtain ⟨zl, z0, z1, z2, y0, y1, y2⟩ := zB0; go_simp; have zB := zB.set (.int .i64 FX.n) (.slice Ar1 FX.b.length cr1) (.slice Ar2 FX.items.length cr2)
     refine hK.out _ _ ?_ (fun hHeld => ?_)
     ·(try dsimp only); exact ⟨cell_later bq c_aD_0, cell_later bq c_aV_0, cell_later bq c_aV_1, cell_later bq c_aV_2⟩
     clear hK K
     try go_frame
     refine rgTake 12 (some 11) hHeld _ ?_; try go_frame
     refine wpAnyH_done (by kernel_rfl) ?_ _
     go_wp2_with fail
     go_meet
     exact ⟨_, _, _, _, _, _, _, rfl, rfl, zB, own_r, hlo, trivial, (by first | exact Nat.le_of_lt zB.lt | simp), hge, bq⟩
    ·(try go_simp)
     have hge := bq.size; first | (have zB := b3_zero bq; have bq := bq.alloc bq.size zO; (try have own_t0 := own_t0.bal zO); (try have own_t1 := own_t1.bal zO); (try have own_r := own_r.bal zO); generalize wq.alloc zO = wa at *) | (have zB : B3 (W3.alloc zO).drew W3.heap.size (.int .i64 0) (.slice none 0 0) (.slice none 0 0) := b3_zero bq; have bq : Below W3.heap.size W3 (W3.alloc zO).drew := bq.alloc bq.size zO; generalize (W3.alloc zO).drew = wa at *)
     refine hK.out _ _ ?_ (fun hHeld => ?_)
     ·(try dsimp only); exact ⟨cell_later bq c_aD_0, cell_later bq c_aV_0, cell_later bq c_aV_1, cell_later bq c_aV_2⟩
     clear hK K
     try go_frame
     refine rgStep 6 (fun K hK => ?_)
     go_simp
     refine (specRem_law own_t0 ok_0.out own_t1 hs1 hl2 HA3.out HF.out.1).mono ?_; rintro e wq ⟨vr, rfl, own_r, bel⟩; have hlo := bq.size; have bq := below_step bel bq; (try have hgr := zB.lt); (try have zB := zB.later bel); obtain ⟨Ar1, cr1, Ar2, cr2, rfl⟩ := own_r.agg
     (try go_wp2_with fail)
     refine hK.out _ _ ?_ (fun hHeld => ?_)
     ·(try dsimp only); exact ⟨cell_later bq c_aD_0, cell_later bq c_aV_0, cell_later bq c_aV_1, cell_later bq c_aV_2⟩
     clear hK K
     try go_frame
     refine rgTake 7 (some 34) hHeld _ ?_; try go_frame
     refine rgTake 8 (some 42) hHeld _ ?_; try go_frame
     refine rgTake 9 (some 43) hHeld _ ?_; try go_frame
     refine rgStep 11 (fun K hK => ?_)
     (try go_simp)
     have own_r := own_r.set3 (by first | exact .inr hgr | exact .inl (Nat.le_refl _)) (.int .i64 FX.n) (.slice Ar1 FX.b.length cr1) (.slice Ar2 FX.items.length cr2); have bq := below_set3 bq hge (.int .i64 FX.n) (.slice Ar1 FX.b.length cr1) (.slice Ar2 FX.items.length cr2); have zB0 := zB; obtain ⟨zl, z0, z1, z2, y0, y1, y2⟩ := zB0; go_simp; have zB := zB.set (.int .i64 FX.n) (.slice Ar1 FX.b.length cr1) (.slice Ar2 FX.items.length cr2)
     refine hK.out _ _ ?_ (fun hHeld => ?_)
     ·(try dsimp only); exact ⟨cell_later bq c_aD_0, cell_later bq c_aV_0, cell_later bq c_aV_1, cell_later bq c_aV_2⟩
     clear hK K
     try go_frame
     refine rgTake 12 (some 11) hHeld _ ?_; try go_frame
     refine wpAnyH_done (by kernel_rfl) ?_ _
     go_wp2_with fail
     go_meet
     exact ⟨_, _, _, _, _, _, _, rfl, rfl, zB, own_r, hlo, trivial, (by first | exact Nat.le_of_lt zB.lt | simp), hge, bq⟩
   ·(try go_simp)
    have hge := bq.size; first | (have zB := b3_zero bq; have bq := bq.alloc bq.size zO; (try have own_t0 := own_t0.bal zO); (try have own_t1 := own_t1.bal zO); (try have own_r := own_r.bal zO); generalize wq.alloc zO = wa at *) | (have zB : B3 (W3.alloc zO).drew W3.heap.size (.int .i64 0) (.slice none 0 0) (.slice none 0 0) := b3_zero bq; have bq : Below W3.heap.size W3 (W3.alloc zO).drew := bq.alloc bq.size zO; generalize (W3.alloc zO).drew = wa at *)
    refine hK.out _ _ ?_ (fun hHeld => ?_)
    ·(try dsimp only); exact ⟨cell_later bq c_aD_0, cell_later bq c_aV_0, cell_later bq c_aV_1, cell_later bq c_aV_2⟩
    clear hK K
    try go_frame
    refine rgStep 3 (fun K hK => ?_)
    go_simp
    refine (toV_law HV1.out.1 HV1.out.2 rfl (below_step bq b3) hs1).mono ?_; rintro e wq ⟨u_t1, rfl, own_t1, bel⟩; have bq := below_step bel bq; have own_t0 := own_t0.keep (Out.of_below bel 0 0) (.inr (Nat.zero_le _)); (try have hgr := zB.lt); (try have zB := zB.later bel); obtain ⟨Ap_t1, cp_t1, Aq_t1, cq_t1, rfl⟩ := own_t1.agg
    (try go_wp2_with fail)
    refine hK.out _ _ ?_ (fun hHeld => ?_)
    ·(try dsimp only); exact ⟨cell_later bq c_aD_0, cell_later bq c_aV_0, cell_later bq c_aV_1, cell_later bq c_aV_2⟩
    clear hK K
    try go_frame
    refine rgStep 6 (fun K hK => ?_)
    go_simp
    refine (specRem_law own_t0 ok_0.out own_t1 hs1 hl2 HA3.out HF.out.1).mono ?_; rintro e wq ⟨vr, rfl, own_r, bel⟩; have hlo := bq.size; have bq := below_step bel bq; (try have hgr := zB.lt); (try have zB := zB.later bel); obtain ⟨Ar1, cr1, Ar2, cr2, rfl⟩ := own_r.agg
    (try go_wp2_with fail)
    refine hK.out _ _ ?_ (fun hHeld => ?_)
    ·(try dsimp only); exact ⟨cell_later bq c_aD_0, cell_later bq c_aV_0, cell_later bq c_aV_1, cell_later bq c_aV_2⟩
    clear hK K
    try go_frame
    refine rgTake 7 (some 34) hHeld _ ?_; try go_frame
    refine rgTake 8 (some 42) hHeld _ ?_; try go_frame
    refine rgTake 9 (some 43) hHeld _ ?_; try go_frame
    refine rgStep 11 (fun K hK => ?_)
    (try go_simp)
    have own_r := own_r.set3 (by first | exact .inr hgr | exact .inl (Nat.le_refl _)) (.int .i64 FX.n) (.slice Ar1 FX.b.length cr1) (.slice Ar2 FX.items.length cr2); have bq := below_set3 bq hge (.int .i64 FX.n) (.slice Ar1 FX.b.length cr1) (.slice Ar2 FX.items.length cr2); have zB0 := zB; obtain ⟨zl, z0, z1, z2, y0, y1, y2⟩ := zB0; go_simp; have zB := zB.set (.int .i64 FX.n) (.slice Ar1 FX.b.length cr1) (.slice Ar2 FX.items.length cr2)
    refine hK.out _ _ ?_ (fun hHeld => ?_)
    ·(try dsimp only); exact ⟨cell_later bq c_aD_0, cell_later bq c_aV_0, cell_later bq c_aV_1, cell_later bq c_aV_2⟩
    clear hK K
    try go_frame
    refine rgTake 12 (some 11) hHeld _ ?_; try go_frame
    refine wpAnyH_done (by kernel_rfl) ?_ _
    go_wp2_with fail
    go_meet
    exact ⟨_, _, _, _, _, _, _, rfl, rfl, zB, own_r, hlo, trivial, (by first | exact Nat.le_of_lt zB.lt | simp), hge, bq⟩
  ·(try go_simp)
   have hge := bq.size; first | (have zB := b3_zero bq; have bq := bq.alloc bq.size zO; (try have own_t0 := own_t0.bal zO); (try have own_t1 := own_t1.bal zO); (try have own_r := own_r.bal zO); generalize wq.alloc zO = wa at *) | (have zB : B3 (W3.alloc zO).drew W3.heap.size (.int .i64 0) (.slice none 0 0) (.slice none 0 0) := b3_zero bq; have bq : Below W3.heap.size W3 (W3.alloc zO).drew := bq.alloc bq.size zO; generalize (W3.alloc zO).drew = wa at *)
   refine hK.out _ _ ?_ (fun hHeld => ?_)
   ·(try dsimp only); exact ⟨cell_later bq c_aD_0, cell_later bq c_aV_0, cell_later bq c_aV_1, cell_later bq c_aV_2⟩
   clear hK K
   try go_frame
   refine rgStep 1 (fun K hK => ?_)
   go_simp
   refine (toD_law hA0 (below_step bq b3) hs0 HD0.out).mono ?_; rintro e wq ⟨t0, rfl, own_t0, bel⟩; have bq := below_step bel bq; (try have hgr := zB.lt); (try have zB := zB.later bel); obtain ⟨A_t0, c_t0, rfl⟩ := own_t0.slice
   (try go_wp2_with fail)
   refine hK.out _ _ ?_ (fun hHeld => ?_)
   ·(try dsimp only); exact ⟨cell_later bq c_aD_0, cell_later bq c_aV_0, cell_later bq c_aV_1, cell_later bq c_aV_2⟩
   clear hK K
   try go_frame
   refine rgStep 3 (fun K hK => ?_)
   go_simp
   refine (toV_law HV1.out.1 HV1.out.2 rfl (below_step bq b3) hs1).mono ?_; rintro e wq ⟨u_t1, rfl, own_t1, bel⟩; have bq := below_step bel bq; have own_t0 := own_t0.keep (Out.of_below bel 0 0) (.inr (Nat.zero_le _)); (try have hgr := zB.lt); (try have zB := zB.later bel); obtain ⟨Ap_t1, cp_t1, Aq_t1, cq_t1, rfl⟩ := own_t1.agg
   (try go_wp2_with fail)
   refine hK.out _ _ ?_ (fun hHeld => ?_)
   ·(try dsimp only); exact ⟨cell_later bq c_aD_0, cell_later bq c_aV_0, cell_later bq c_aV_1, cell_later bq c_aV_2⟩
   clear hK K
   try go_frame
   refine rgStep 6 (fun K hK => ?_)
   go_simp
   refine (specRem_law own_t0 ok_0.out own_t1 hs1 hl2 HA3.out HF.out.1).mono ?_; rintro e wq ⟨vr, rfl, own_r, bel⟩; have hlo := bq.size; have bq := below_step bel bq; (try have hgr := zB.lt); (try have zB := zB.later bel); obtain ⟨Ar1, cr1, Ar2, cr2, rfl⟩ := own_r.agg
   (try go_wp2_with fail)
   refine hK.out _ _ ?_ (fun hHeld => ?_)
   ·(try dsimp only); exact ⟨cell_later bq c_aD_0, cell_later bq c_aV_0, cell_later bq c_aV_1, cell_later bq c_aV_2⟩
   clear hK K
   try go_frame
   refine rgTake 7 (some 34) hHeld _ ?_; try go_frame
   refine rgTake 8 (some 42) hHeld _ ?_; try go_frame
   refine rgTake 9 (some 43) hHeld _ ?_; try go_frame
   refine rgStep 11 (fun K hK => ?_)
   (try go_simp)
   have own_r := own_r.set3 (by first | exact .inr hgr | exact .inl (Nat.le_refl _)) (.int .i64 FX.n) (.slice Ar1 FX.b.length cr1) (.slice Ar2 FX.items.length cr2); have bq := below_set3 bq hge (.int .i64 FX.n) (.slice Ar1 FX.b.length cr1) (.slice Ar2 FX.items.length cr2); have zB0 := zB; obtain ⟨zl, z0, z1, z2, y0, y1, y2⟩ := zB0; go_simp; have zB := zB.set (.int .i64 FX.n) (.slice Ar1 FX.b.length cr1) (.slice Ar2 FX.items.length cr2)
   refine hK.out _ _ ?_ (fun hHeld => ?_)
   ·(try dsimp only); exact ⟨cell_later bq c_aD_0, cell_later bq c_aV_0, cell_later bq c_aV_1, cell_later bq c_aV_2⟩
   clear hK K
   try go_frame
   refine rgTake 12 (some 11) hHeld _ ?_; try go_frame
   refine wpAnyH_done (by kernel_rfl) ?_ _
   go_wp2_with fail
   go_meet
   exact ⟨_, _, _, _, _, _, _, rfl, rfl, zB, own_r, hlo, trivial, (by first | exact Nat.le_of_lt zB.lt | simp), hge, bq⟩
 obtain ⟨bq_w0, A_w0, c_w0, A2_w0, c2_w0, lo_w0, hi_w0, rfl, rfl, zb_w0, own_w0, hlo_w0, far_w0, hhi_w0, hge_w0, bel4⟩ := hcut
 obtain ⟨W4, hWc⟩ : ∃ W9 : World, W9 = wc := ⟨_, rfl⟩
 subst hWc
 have b4 := below_step bel4 b3
 have s4 := bel4.size
 have p4 : w.heap.size ≤ W4.heap.size := b4.size
 have c_aD_0 := cell_later bel4 c_aD_0
 have c_aV_0 := cell_later bel4 c_aV_0
 have c_aV_1 := cell_later bel4 c_aV_1
 have c_aV_2 := cell_later bel4 c_aV_2
 have K_aD := K_aD.later bel4
 have K_aV := K_aV.later bel4
 have lt_w0 := zb_w0.lt
 have K_w0 := zb_w0.k3
 clear zb_w0
 clear c_aD_0 c_aV_0 c_aV_1 c_aV_2
 have c_aD_0 := K_aD.c0
 go_wp2_with fail
 refine (toD_law hA0 b4 hs0 HD0.out).mono ?_
 rintro e W5 ⟨x0, rfl, own_x0, bel5⟩
 have b5 := below_step bel5 b4
 have s5 := bel5.size
 have p5 : w.heap.size ≤ W5.heap.size := b5.size
 have own_w0 := own_w0.keep (Out.of_below bel5 0 0) (.inr (Nat.zero_le _))
 have c_aD_0 := cell_later bel5 c_aD_0
 have K_aD := K_aD.later bel5
 have K_aV := K_aV.later bel5
 have K_w0 := K_w0.later bel5
 obtain ⟨A_x0, c_x0, rfl⟩ := own_x0.slice
 clear c_aD_0
 have b6 : Below w.heap.size w (W5.alloc (.cells #[.slice A_x0 D0.length c_x0] 38)) := b5.alloc (b5).size _
 have z6 : (W5.alloc (.cells #[.slice A_x0 D0.length c_x0] 38)).heap.size = W5.heap.size + 1 := by simp
 have zl6 : w.heap.size ≤ W5.heap.size := (b5).size
 have K_aD := K_aD.alloc (.cells #[.slice A_x0 D0.length c_x0] 38)
 have K_aV := K_aV.alloc (.cells #[.slice A_x0 D0.length c_x0] 38)
 have K_w0 := K_w0.alloc (.cells #[.slice A_x0 D0.length c_x0] 38)
 have own_w0 := own_w0.keep (Out.of_below ((Below.refl _ _).alloc (Nat.le_refl _) (.cells #[.slice A_x0 D0.length c_x0] 38)) 0 0) (.inr (Nat.zero_le _))
 have own_x0 := own_x0.keep (Out.of_below ((Below.refl _ _).alloc (Nat.le_refl _) (.cells #[.slice A_x0 D0.length c_x0] 38)) 0 0) (.inr (Nat.zero_le _))
 have K_x0 : K1 (W5.alloc (.cells #[.slice A_x0 D0.length c_x0] 38)) (W5.heap.size) (.slice A_x0 D0.length c_x0) := ⟨by simp [go_sem]⟩
 have c_aV_0 := K_aV.c0
 have c_aV_1 := K_aV.c1
 have c_aV_2 := K_aV.c2
 go_wp2_with fail
 refine (toV_law HV1.out.1 HV1.out.2 rfl b6 hs1).mono ?_
 rintro e W7 ⟨u_x1, rfl, own_x1, bel7⟩
 have b7 := below_step bel7 b6
 have s7 := bel7.size
 have p7 : w.heap.size ≤ W7.heap.size := b7.size
 have own_w0 := own_w0.keep (Out.of_below bel7 0 0) (.inr (Nat.zero_le _))
 have own_x0 := own_x0.keep (Out.of_below bel7 0 0) (.inr (Nat.zero_le _))
 have c_aV_0 := cell_later bel7 c_aV_0
 have c_aV_1 := cell_later bel7 c_aV_1
 have c_aV_2 := cell_later bel7 c_aV_2
 have K_aD := K_aD.later bel7
 have K_aV := K_aV.later bel7
 have K_w0 := K_w0.later bel7
 have K_x0 := K_x0.later bel7
 obtain ⟨Ap_x1, cp_x1, Aq_x1, cq_x1, rfl⟩ := own_x1.agg
 clear c_aV_0 c_aV_1 c_aV_2
 have b8 : Below w.heap.size w (W7.alloc (.cells #[.int .i64 X1.n, .slice Ap_x1 X1.b.length cp_x1, .slice Aq_x1 X1.items.length cq_x1] 33)) := b7.alloc (b7).size _
 have z8 : (W7.alloc (.cells #[.int .i64 X1.n, .slice Ap_x1 X1.b.length cp_x1, .slice Aq_x1 X1.items.length cq_x1] 33)).heap.size = W7.heap.size + 1 := by simp
 have zl8 : w.heap.size ≤ W7.heap.size := (b7).size
 have K_aD := K_aD.alloc (.cells #[.int .i64 X1.n, .slice Ap_x1 X1.b.length cp_x1, .slice Aq_x1 X1.items.length cq_x1] 33)
 have K_aV := K_aV.alloc (.cells #[.int .i64 X1.n, .slice Ap_x1 X1.b.length cp_x1, .slice Aq_x1 X1.items.length cq_x1] 33)
 have K_w0 := K_w0.alloc (.cells #[.int .i64 X1.n, .slice Ap_x1 X1.b.length cp_x1, .slice Aq_x1 X1.items.length cq_x1] 33)
 have K_x0 := K_x0.alloc (.cells #[.int .i64 X1.n, .slice Ap_x1 X1.b.length cp_x1, .slice Aq_x1 X1.items.length cq_x1] 33)
 have own_w0 := own_w0.keep (Out.of_below ((Below.refl _ _).alloc (Nat.le_refl _) (.cells #[.int .i64 X1.n, .slice Ap_x1 X1.b.length cp_x1, .slice Aq_x1 X1.items.length cq_x1] 33)) 0 0) (.inr (Nat.zero_le _))
 have own_x0 := own_x0.keep (Out.of_below ((Below.refl _ _).alloc (Nat.le_refl _) (.cells #[.int .i64 X1.n, .slice Ap_x1 X1.b.length cp_x1, .slice Aq_x1 X1.items.length cq_x1] 33)) 0 0) (.inr (Nat.zero_le _))
 have own_x1 := own_x1.keep (Out.of_below ((Below.refl _ _).alloc (Nat.le_refl _) (.cells #[.int .i64 X1.n, .slice Ap_x1 X1.b.length cp_x1, .slice Aq_x1 X1.items.length cq_x1] 33)) 0 0) (.inr (Nat.zero_le _))
 have K_x1 : K3 (W7.alloc (.cells #[.int .i64 X1.n, .slice Ap_x1 X1.b.length cp_x1, .slice Aq_x1 X1.items.length cq_x1] 33)) (W7.heap.size) (.int .i64 X1.n) (.slice Ap_x1 X1.b.length cp_x1) (.slice Aq_x1 X1.items.length cq_x1) := ⟨by simp [go_sem], by simp [go_sem], by simp [go_sem]⟩
 have c_x0_0 := K_x0.c0
 have c_x1_0 := K_x1.c0
 have c_x1_1 := K_x1.c1
 have c_x1_2 := K_x1.c2
 go_upto_region 13 with fail
 go_cut [14, 15] (fun s14 s15 wx => ∃ (bq : Nat) (A1 : Option Addr) (c1 : Nat) (A2 : Option Addr) (c2 lo hi : Nat), s14 = .pointer (some ⟨bq, 0, none⟩) ∧ s15 = .bool FB ∧ B3 wx bq (.int .i64 FX.n) (.slice A1 FX.b.length c1) (.slice A2 FX.items.length c2) ∧ OwV FX lo hi wx (.agg #[.int .i64 FX.n, .slice A1 FX.b.length c1, .slice A2 FX.items.length c2]) ∧ (W7.alloc (.cells #[.int .i64 X1.n, .slice Ap_x1 X1.b.length cp_x1, .slice Aq_x1 X1.items.length cq_x1] 33)).heap.size ≤ lo ∧ hi ≤ bq ∧ hi ≤ wx.heap.size ∧ (W7.alloc (.cells #[.int .i64 X1.n, .slice Ap_x1 X1.b.length cp_x1, .slice Aq_x1 X1.items.length cq_x1] 33)).heap.size ≤ bq ∧ Below (W7.alloc (.cells #[.int .i64 X1.n, .slice Ap_x1 X1.b.length cp_x1, .slice Aq_x1 X1.items.length cq_x1] 33)).heap.size (W7.alloc (.cells #[.int .i64 X1.n, .slice Ap_x1 X1.b.length cp_x1, .slice Aq_x1 X1.items.length cq_x1] 33)) wx)
 case first =>
  have bq := Below.refl (W7.alloc (.cells #[.int .i64 X1.n, .slice Ap_x1 X1.b.length cp_x1, .slice Aq_x1 X1.items.length cq_x1] 33)).heap.size (W7.alloc (.cells #[.int .i64 X1.n, .slice Ap_x1 X1.b.length cp_x1, .slice Aq_x1 X1.items.length cq_x1] 33))
  go_wp2_with fail
  refine (implRem_law own_x0 ok_0.out own_x1 hs1 hl2 HA3.out HF.out.1 HTab.out (below_step bq b8)).mono ?_
  rintro e wq ⟨vr, rfl, own_r, bel⟩
  have hlo := bq.size
  have bq := below_step bel bq
  obtain ⟨Ar1, cr1, Ar2, cr2, rfl⟩ := own_r.agg
  have hw := bel.size
  have zB := b3_new bq (.int .i64 FX.n) (.slice Ar1 FX.b.length cr1) (.slice Ar2 FX.items.length cr2) 33
  have own_r := own_r.bal (.cells #[.int .i64 FX.n, .slice Ar1 FX.b.length cr1, .slice Ar2 FX.items.length cr2] 33)
  have hge := bq.size
  have bq := bq.alloc bq.size (.cells #[.int .i64 FX.n, .slice Ar1 FX.b.length cr1, .slice Ar2 FX.items.length cr2] 33)
  go_wp2_with fail
  go_meet
  exact ⟨_, _, _, _, _, _, _, rfl, rfl, zB, own_r, hlo, Nat.le_refl _, Nat.le_of_lt zB.lt, hge, bq⟩
 obtain ⟨bq_g0, A_g0, c_g0, A2_g0, c2_g0, lo_g0, hi_g0, rfl, rfl, zb_g0, own_g0, hlo_g0, far_g0, hhi_g0, hge_g0, bel9⟩ := hcut
 obtain ⟨W9, hWc⟩ : ∃ W9 : World, W9 = wc := ⟨_, rfl⟩
 subst hWc
 have b9 := below_step bel9 b8
 have s9 := bel9.size
 have p9 : w.heap.size ≤ W9.heap.size := b9.size
 have own_w0 := own_w0.keep (Out.of_below bel9 0 0) (.inr (Nat.zero_le _))
 have own_x0 := own_x0.keep (Out.of_below bel9 0 0) (.inr (Nat.zero_le _))
 have own_x1 := own_x1.keep (Out.of_below bel9 0 0) (.inr (Nat.zero_le _))
 have c_x0_0 := cell_later bel9 c_x0_0
 have c_x1_0 := cell_later bel9 c_x1_0
 have c_x1_1 := cell_later bel9 c_x1_1
 have c_x1_2 := cell_later bel9 c_x1_2
 have K_aD := K_aD.later bel9
 have K_aV := K_aV.later bel9
 have K_w0 := K_w0.later bel9
 have K_x0 := K_x0.later bel9
 have K_x1 := K_x1.later bel9
 have lt_g0 := zb_g0.lt
 have K_g0 := zb_g0.k3
 clear zb_g0
 clear c_x0_0 c_x1_0 c_x1_1 c_x1_2
 have c_w0_0 := K_w0.c0
 have c_w0_1 := K_w0.c1
 have c_w0_2 := K_w0.c2
 have c_g0_0 := K_g0.c0
 have c_g0_1 := K_g0.c1
 have c_g0_2 := K_g0.c2
 go_wp2_with fail
 refine (eqV_law own_g0 own_w0).mono ?_
 rintro e W10 ⟨rfl, bel10⟩
 have b10 := below_step bel10 b9
 have s10 := bel10.size
 have p10 : w.heap.size ≤ W10.heap.size := b10.size
 have own_w0 := own_w0.keep (Out.of_below bel10 0 0) (.inr (Nat.zero_le _))
 have own_x0 := own_x0.keep (Out.of_below bel10 0 0) (.inr (Nat.zero_le _))
 have own_x1 := own_x1.keep (Out.of_below bel10 0 0) (.inr (Nat.zero_le _))
 have own_g0 := own_g0.keep (Out.of_below bel10 0 0) (.inr (Nat.zero_le _))
 have c_w0_0 := cell_later bel10 c_w0_0
 have c_w0_1 := cell_later bel10 c_w0_1
 have c_w0_2 := cell_later bel10 c_w0_2
 have c_g0_0 := cell_later bel10 c_g0_0
 have c_g0_1 := cell_later bel10 c_g0_1
 have c_g0_2 := cell_later bel10 c_g0_2
 have K_aD := K_aD.later bel10
 have K_aV := K_aV.later bel10
 have K_w0 := K_w0.later bel10
 have K_x0 := K_x0.later bel10
 have K_x1 := K_x1.later bel10
 have K_g0 := K_g0.later bel10
 clear c_w0_0 c_w0_1 c_w0_2 c_g0_0 c_g0_1 c_g0_2
 have c_aD_0 := K_aD.c0
 have c_x0_0 := K_x0.c0
 go_wp2_with fail
 have own_w0 := own_w0.keep (Out.of_below ((Below.refl W10.heap.size W10).drew) 0 0) (.inr (Nat.zero_le _))
 have own_x0 := own_x0.keep (Out.of_below ((Below.refl W10.heap.size W10).drew) 0 0) (.inr (Nat.zero_le _))
 have own_x1 := own_x1.keep (Out.of_below ((Below.refl W10.heap.size W10).drew) 0 0) (.inr (Nat.zero_le _))
 have own_g0 := own_g0.keep (Out.of_below ((Below.refl W10.heap.size W10).drew) 0 0) (.inr (Nat.zero_le _))
 have K_aD := K_aD.drew
 have K_aV := K_aV.drew
 have K_w0 := K_w0.drew
 have K_x0 := K_x0.drew
 have K_x1 := K_x1.drew
 have K_g0 := K_g0.drew
 have zd1 : W10.drew.heap.size ≤ W10.heap.size := Nat.le_refl _
 have zd2 : W10.heap.size ≤ W10.drew.heap.size := Nat.le_refl _
 refine wp_region_held_drew (S := (fun w9 => w9.cell? ⟨w.heap.size, 0, none⟩ = some (.slice Aa0 l0.length ca0) ∧ w9.cell? ⟨W5.heap.size, 0, none⟩ = some (.slice A_x0 D0.length c_x0))) (by kernel_rfl) ?_ (fun hHeld => ?_)
 ·(try dsimp only); exact ⟨c_aD_0, c_x0_0⟩
 refine rgTake 0 (some 65) hHeld _ ?_; try go_frame
 refine rgTake 1 (some 66) hHeld _ ?_; try go_frame
 refine rgStep 2 (fun K hK => ?_)
 go_simp
 refine (toD_law hA0 (b10).drew hs0 HD0.out).mono ?_; rintro e W11 ⟨t2, rfl, own_t2, bel11⟩; have b11 := below_step bel11 (b10).drew; have s11 := bel11.size; have p11 : w.heap.size ≤ W11.heap.size := b11.size; have own_w0 := own_w0.keep (Out.of_below bel11 0 0) (.inr (Nat.zero_le _)); have own_x0 := own_x0.keep (Out.of_below bel11 0 0) (.inr (Nat.zero_le _)); have own_x1 := own_x1.keep (Out.of_below bel11 0 0) (.inr (Nat.zero_le _)); have own_g0 := own_g0.keep (Out.of_below bel11 0 0) (.inr (Nat.zero_le _)); have c_aD_0 := cell_later bel11 c_aD_0; have c_x0_0 := cell_later bel11 c_x0_0; have K_aD := K_aD.later bel11; have K_aV := K_aV.later bel11; have K_w0 := K_w0.later bel11; have K_x0 := K_x0.later bel11; have K_x1 := K_x1.later bel11; have K_g0 := K_g0.later bel11; obtain ⟨A_t2, c_t2, rfl⟩ := own_t2.slice
 (try go_wp2_with fail)
 refine hK.out _ _ ?_ (fun hHeld => ?_)
 ·(try dsimp only); exact ⟨c_aD_0, c_x0_0⟩
 clear hK K
 try go_frame
 refine rgStep 3 (fun K hK => ?_)
 go_simp
 refine (eqD_law own_x0 own_t2).mono ?_; rintro e W12 ⟨rfl, bel12⟩; have b12 := below_step bel12 b11; have s12 := bel12.size; have p12 : w.heap.size ≤ W12.heap.size := b12.size; have own_w0 := own_w0.keep (Out.of_below bel12 0 0) (.inr (Nat.zero_le _)); have own_x0 := own_x0.keep (Out.of_below bel12 0 0) (.inr (Nat.zero_le _)); have own_x1 := own_x1.keep (Out.of_below bel12 0 0) (.inr (Nat.zero_le _)); have own_g0 := own_g0.keep (Out.of_below bel12 0 0) (.inr (Nat.zero_le _)); have own_t2 := own_t2.keep (Out.of_below bel12 0 0) (.inr (Nat.zero_le _)); have c_aD_0 := cell_later bel12 c_aD_0; have c_x0_0 := cell_later bel12 c_x0_0; have K_aD := K_aD.later bel12; have K_aV := K_aV.later bel12; have K_w0 := K_w0.later bel12; have K_x0 := K_x0.later bel12; have K_x1 := K_x1.later bel12; have K_g0 := K_g0.later bel12; clear own_t2
 (try go_wp2_with fail)
 refine hK.out _ _ ?_ (fun hHeld => ?_)
 ·(try dsimp only); exact ⟨c_aD_0, c_x0_0⟩
 clear hK K
 try go_frame
 refine rgTake 4 (some 69) hHeld _ ?_; try go_frame
 refine wpAnyH_done (by kernel_rfl) ?_ _
 clear c_aD_0 c_x0_0
 have c_aV_0 := K_aV.c0
 have c_aV_1 := K_aV.c1
 have c_aV_2 := K_aV.c2
 have c_x1_0 := K_x1.c0
 have c_x1_1 := K_x1.c1
 have c_x1_2 := K_x1.c2
 go_wp2_with fail
 have own_w0 := own_w0.keep (Out.of_below ((Below.refl W12.heap.size W12).drew) 0 0) (.inr (Nat.zero_le _))
 have own_x0 := own_x0.keep (Out.of_below ((Below.refl W12.heap.size W12).drew) 0 0) (.inr (Nat.zero_le _))
 have own_x1 := own_x1.keep (Out.of_below ((Below.refl W12.heap.size W12).drew) 0 0) (.inr (Nat.zero_le _))
 have own_g0 := own_g0.keep (Out.of_below ((Below.refl W12.heap.size W12).drew) 0 0) (.inr (Nat.zero_le _))
 have K_aD := K_aD.drew
 have K_aV := K_aV.drew
 have K_w0 := K_w0.drew
 have K_x0 := K_x0.drew
 have K_x1 := K_x1.drew
 have K_g0 := K_g0.drew
 have zd1 : W12.drew.heap.size ≤ W12.heap.size := Nat.le_refl _
 have zd2 : W12.heap.size ≤ W12.drew.heap.size := Nat.le_refl _
 refine wp_region_held_drew (S := (fun w9 => w9.cell? ⟨w.heap.size + 1, 0, none⟩ = some (.int .i64 nn1) ∧ w9.cell? ⟨w.heap.size + 1, 1, none⟩ = some (.slice Av1 bb1.length cv1) ∧ w9.cell? ⟨w.heap.size + 1, 2, none⟩ = some (.slice Aw1 ll1.length cw1) ∧ w9.cell? ⟨W7.heap.size, 0, none⟩ = some (.int .i64 X1.n) ∧ w9.cell? ⟨W7.heap.size, 1, none⟩ = some (.slice Ap_x1 X1.b.length cp_x1) ∧ w9.cell? ⟨W7.heap.size, 2, none⟩ = some (.slice Aq_x1 X1.items.length cq_x1))) (by kernel_rfl) ?_ (fun hHeld => ?_)
 ·(try dsimp only); exact ⟨c_aV_0, c_aV_1, c_aV_2, c_x1_0, c_x1_1, c_x1_2⟩
 refine rgTake 0 (some 70) hHeld _ ?_; try go_frame
 refine rgTake 1 (some 71) hHeld _ ?_; try go_frame
 refine rgStep 2 (fun K hK => ?_)
 go_simp
 refine (toV_law HV1.out.1 HV1.out.2 rfl (b12).drew hs1).mono ?_; rintro e W13 ⟨u_t3, rfl, own_t3, bel13⟩; have b13 := below_step bel13 (b12).drew; have s13 := bel13.size; have p13 : w.heap.size ≤ W13.heap.size := b13.size; have own_w0 := own_w0.keep (Out.of_below bel13 0 0) (.inr (Nat.zero_le _)); have own_x0 := own_x0.keep (Out.of_below bel13 0 0) (.inr (Nat.zero_le _)); have own_x1 := own_x1.keep (Out.of_below bel13 0 0) (.inr (Nat.zero_le _)); have own_g0 := own_g0.keep (Out.of_below bel13 0 0) (.inr (Nat.zero_le _)); have c_aV_0 := cell_later bel13 c_aV_0; have c_aV_1 := cell_later bel13 c_aV_1; have c_aV_2 := cell_later bel13 c_aV_2; have c_x1_0 := cell_later bel13 c_x1_0; have c_x1_1 := cell_later bel13 c_x1_1; have c_x1_2 := cell_later bel13 c_x1_2; have K_aD := K_aD.later bel13; have K_aV := K_aV.later bel13; have K_w0 := K_w0.later bel13; have K_x0 := K_x0.later bel13; have K_x1 := K_x1.later bel13; have K_g0 := K_g0.later bel13; obtain ⟨Ap_t3, cp_t3, Aq_t3, cq_t3, rfl⟩ := own_t3.agg
 (try go_wp2_with fail)
 refine hK.out _ _ ?_ (fun hHeld => ?_)
 ·(try dsimp only); exact ⟨c_aV_0, c_aV_1, c_aV_2, c_x1_0, c_x1_1, c_x1_2⟩
 clear hK K
 try go_frame
 refine rgStep 3 (fun K hK => ?_)
 go_simp
 refine (eqV_law own_x1 own_t3).mono ?_; rintro e W14 ⟨rfl, bel14⟩; have b14 := below_step bel14 b13; have s14 := bel14.size; have p14 : w.heap.size ≤ W14.heap.size := b14.size; have own_w0 := own_w0.keep (Out.of_below bel14 0 0) (.inr (Nat.zero_le _)); have own_x0 := own_x0.keep (Out.of_below bel14 0 0) (.inr (Nat.zero_le _)); have own_x1 := own_x1.keep (Out.of_below bel14 0 0) (.inr (Nat.zero_le _)); have own_g0 := own_g0.keep (Out.of_below bel14 0 0) (.inr (Nat.zero_le _)); have own_t3 := own_t3.keep (Out.of_below bel14 0 0) (.inr (Nat.zero_le _)); have c_aV_0 := cell_later bel14 c_aV_0; have c_aV_1 := cell_later bel14 c_aV_1; have c_aV_2 := cell_later bel14 c_aV_2; have c_x1_0 := cell_later bel14 c_x1_0; have c_x1_1 := cell_later bel14 c_x1_1; have c_x1_2 := cell_later bel14 c_x1_2; have K_aD := K_aD.later bel14; have K_aV := K_aV.later bel14; have K_w0 := K_w0.later bel14; have K_x0 := K_x0.later bel14; have K_x1 := K_x1.later bel14; have K_g0 := K_g0.later bel14; clear own_t3
 (try go_wp2_with fail)
 refine hK.out _ _ ?_ (fun hHeld => ?_)
 ·(try dsimp only); exact ⟨c_aV_0, c_aV_1, c_aV_2, c_x1_0, c_x1_1, c_x1_2⟩
 clear hK K
 try go_frame
 refine rgTake 4 (some 74) hHeld _ ?_; try go_frame
 refine wpAnyH_done (by kernel_rfl) ?_ _
 clear c_aV_0 c_aV_1 c_aV_2 c_x1_0 c_x1_1 c_x1_2
 have c_x0_0 := K_x0.c0
 go_wp2_with fail
 refine (markD_law own_x0 1 (by omega) (by omega) (by rw [← HD0.out, List.length_map]; exact hs0.1) ok_0.out.sm).mono ?_
 rintro e W15 ⟨rr15, rfl, ge15, gk15, le15, out15⟩
 have b15 := Out.below out15 b14 (by omega)
 have s15 := out15.size
 have p15 : w.heap.size ≤ W15.heap.size := b15.size
 clear own_x0
 have own_w0 := own_w0.keep out15 (by omega)
 have own_x1 := own_x1.keep out15 (by omega)
 have own_g0 := own_g0.keep out15 (by omega)
 have c_x0_0 : W15.cell? ⟨W5.heap.size, 0, none⟩ = some (.slice A_x0 D0.length c_x0) := out15.cell (p := ⟨W5.heap.size, 0, none⟩) c_x0_0 (by show W5.heap.size < _ ∨ _ ≤ W5.heap.size; omega)
 have K_aD := K_aD.out out15 (by omega)
 have K_aV := K_aV.out out15 (by omega)
 have K_w0 := K_w0.out out15 (by omega)
 have K_x0 := K_x0.out out15 (by omega)
 have K_x1 := K_x1.out out15 (by omega)
 have K_g0 := K_g0.out out15 (by omega)
 clear c_x0_0
 have c_x1_0 := K_x1.c0
 have c_x1_1 := K_x1.c1
 have c_x1_2 := K_x1.c2
 go_wp2_with fail
 refine (markV_law own_x1 rr15 (by omega) (by omega)).mono ?_
 rintro e W16 ⟨rr16, rfl, re16, mk_x1, out16⟩
 have b16 := Out.below out16 b15 (by omega)
 have s16 := out16.size
 have p16 : w.heap.size ≤ W16.heap.size := b16.size
 clear own_x1
 have own_w0 := own_w0.keep out16 (by omega)
 have own_g0 := own_g0.keep out16 (by omega)
 have c_x1_0 : W16.cell? ⟨W7.heap.size, 0, none⟩ = some (.int .i64 X1.n) := out16.cell (p := ⟨W7.heap.size, 0, none⟩) c_x1_0 (by show W7.heap.size < _ ∨ _ ≤ W7.heap.size; omega)
 have c_x1_1 : W16.cell? ⟨W7.heap.size, 1, none⟩ = some (.slice Ap_x1 X1.b.length cp_x1) := out16.cell (p := ⟨W7.heap.size, 1, none⟩) c_x1_1 (by show W7.heap.size < _ ∨ _ ≤ W7.heap.size; omega)
 have c_x1_2 : W16.cell? ⟨W7.heap.size, 2, none⟩ = some (.slice Aq_x1 X1.items.length cq_x1) := out16.cell (p := ⟨W7.heap.size, 2, none⟩) c_x1_2 (by show W7.heap.size < _ ∨ _ ≤ W7.heap.size; omega)
 have K_aD := K_aD.out out16 (by omega)
 have K_aV := K_aV.out out16 (by omega)
 have K_w0 := K_w0.out out16 (by omega)
 have K_x0 := K_x0.out out16 (by omega)
 have K_x1 := K_x1.out out16 (by omega)
 have K_g0 := K_g0.out out16 (by omega)
 clear mk_x1
 clear c_x1_0 c_x1_1 c_x1_2
 have c_w0_0 := K_w0.c0
 have c_w0_1 := K_w0.c1
 have c_w0_2 := K_w0.c2
 have c_g0_0 := K_g0.c0
 have c_g0_1 := K_g0.c1
 have c_g0_2 := K_g0.c2
 go_wp2_with fail
 refine (eqV_law own_g0 own_w0).mono ?_
 rintro e W17 ⟨rfl, bel17⟩
 have b17 := below_step bel17 b16
 have s17 := bel17.size
 have p17 : w.heap.size ≤ W17.heap.size := b17.size
 have own_w0 := own_w0.keep (Out.of_below bel17 0 0) (.inr (Nat.zero_le _))
 have own_g0 := own_g0.keep (Out.of_below bel17 0 0) (.inr (Nat.zero_le _))
 have c_w0_0 := cell_later bel17 c_w0_0
 have c_w0_1 := cell_later bel17 c_w0_1
 have c_w0_2 := cell_later bel17 c_w0_2
 have c_g0_0 := cell_later bel17 c_g0_0
 have c_g0_1 := cell_later bel17 c_g0_1
 have c_g0_2 := cell_later bel17 c_g0_2
 have K_aD := K_aD.later bel17
 have K_aV := K_aV.later bel17
 have K_w0 := K_w0.later bel17
 have K_x0 := K_x0.later bel17
 have K_x1 := K_x1.later bel17
 have K_g0 := K_g0.later bel17
 clear c_w0_0 c_w0_1 c_w0_2 c_g0_0 c_g0_1 c_g0_2
 have c_g0_0 := K_g0.c0
 have c_g0_1 := K_g0.c1
 have c_g0_2 := K_g0.c2
 go_wp2_with fail
 refine (markV_law own_g0 1 (by omega) (by omega)).mono ?_
 rintro e W18 ⟨rr18, rfl, re18, mk_g0, out18⟩
 have b18 := Out.below out18 b17 (by omega)
 have s18 := out18.size
 have p18 : w.heap.size ≤ W18.heap.size := b18.size
 clear own_g0
 have own_w0 := own_w0.keep out18 (by omega)
 have c_g0_0 : W18.cell? ⟨bq_g0, 0, none⟩ = some (.int .i64 FX.n) := out18.cell (p := ⟨bq_g0, 0, none⟩) c_g0_0 (by show bq_g0 < _ ∨ _ ≤ bq_g0; omega)
 have c_g0_1 : W18.cell? ⟨bq_g0, 1, none⟩ = some (.slice A_g0 FX.b.length c_g0) := out18.cell (p := ⟨bq_g0, 1, none⟩) c_g0_1 (by show bq_g0 < _ ∨ _ ≤ bq_g0; omega)
 have c_g0_2 : W18.cell? ⟨bq_g0, 2, none⟩ = some (.slice A2_g0 FX.items.length c2_g0) := out18.cell (p := ⟨bq_g0, 2, none⟩) c_g0_2 (by show bq_g0 < _ ∨ _ ≤ bq_g0; omega)
 have K_aD := K_aD.out out18 (by omega)
 have K_aV := K_aV.out out18 (by omega)
 have K_w0 := K_w0.out out18 (by omega)
 have K_x0 := K_x0.out out18 (by omega)
 have K_x1 := K_x1.out out18 (by omega)
 have K_g0 := K_g0.out out18 (by omega)
 clear c_g0_0 c_g0_1 c_g0_2
 have c_g0_0 := K_g0.c0
 have c_g0_1 := K_g0.c1
 have c_g0_2 := K_g0.c2
 go_wp2_with fail
 refine (heldV_law mk_g0).mono ?_
 rintro e W19 ⟨rfl, bel19⟩
 have b19 := below_step bel19 b18
 have s19 := bel19.size
 have p19 : w.heap.size ≤ W19.heap.size := b19.size
 have own_w0 := own_w0.keep (Out.of_below bel19 0 0) (.inr (Nat.zero_le _))
 have mk_g0 := mk_g0.keep (Out.of_below bel19 0 0) (.inr (Nat.zero_le _))
 have c_g0_0 := cell_later bel19 c_g0_0
 have c_g0_1 := cell_later bel19 c_g0_1
 have c_g0_2 := cell_later bel19 c_g0_2
 have K_aD := K_aD.later bel19
 have K_aV := K_aV.later bel19
 have K_w0 := K_w0.later bel19
 have K_x0 := K_x0.later bel19
 have K_x1 := K_x1.later bel19
 have K_g0 := K_g0.later bel19
 clear c_g0_0 c_g0_1 c_g0_2
 have c_aD_0 := K_aD.c0
 have c_aV_0 := K_aV.c0
 have c_aV_1 := K_aV.c1
 have c_aV_2 := K_aV.c2
 go_upto_region 33 with fail
 go_cut [19, 20] (fun s19 s20 wx => ∃ (bq : Nat) (A1 : Option Addr) (c1 : Nat) (A2 : Option Addr) (c2 lo hi : Nat), s19 = .pointer (some ⟨bq, 0, none⟩) ∧ s20 = .bool FB ∧ B3 wx bq (.int .i64 FX.n) (.slice A1 FX.b.length c1) (.slice A2 FX.items.length c2) ∧ OwV FX lo hi wx (.agg #[.int .i64 FX.n, .slice A1 FX.b.length c1, .slice A2 FX.items.length c2]) ∧ W19.heap.size ≤ lo ∧ True ∧ hi ≤ wx.heap.size ∧ W19.heap.size ≤ bq ∧ Below W19.heap.size W19 wx)
 case first =>
  have bq := (Below.refl W19.heap.size W19).drew
  go_wp2_with fail
  refine wp_region_held_drew (S := (fun w9 => w9.cell? ⟨w.heap.size, 0, none⟩ = some (.slice Aa0 l0.length ca0) ∧ w9.cell? ⟨w.heap.size + 1, 0, none⟩ = some (.int .i64 nn1) ∧ w9.cell? ⟨w.heap.size + 1, 1, none⟩ = some (.slice Av1 bb1.length cv1) ∧ w9.cell? ⟨w.heap.size + 1, 2, none⟩ = some (.slice Aw1 ll1.length cw1))) (by kernel_rfl) ?_ (fun hHeld => ?_)
  ·(try dsimp only); exact ⟨c_aD_0, c_aV_0, c_aV_1, c_aV_2⟩
  refine rgTake 0 (some 106) hHeld _ ?_; try go_frame
  refine rgTake 2 (some 108) hHeld _ ?_; try go_frame
  refine rgTake 4 (some 110) hHeld _ ?_; try go_frame
  refine rgTake 5 (some 111) hHeld _ ?_; try go_frame
  refine rgTwo 1 10 (by kernel_rfl) rfl rfl (by rfl) (by rfl) (fun K hK => ?_) (fun K hK => ?_)
  ·go_simp
   refine (toD_law hA0 (below_step bq b19) hs0 HD0.out).mono ?_; rintro e wq ⟨t4, rfl, own_t4, bel⟩; have bq := below_step bel bq; (try have hgr := zB.lt); (try have zB := zB.later bel); obtain ⟨A_t4, c_t4, rfl⟩ := own_t4.slice
   (try go_wp2_with fail)
   refine hK.out _ _ ?_ (fun hHeld => ?_)
   ·(try dsimp only); exact ⟨cell_later bq c_aD_0, cell_later bq c_aV_0, cell_later bq c_aV_1, cell_later bq c_aV_2⟩
   clear hK K
   try go_frame
   refine rgTwo 3 10 (by kernel_rfl) rfl rfl (by rfl) (by rfl) (fun K hK => ?_) (fun K hK => ?_)
   ·go_simp
    refine (toV_law HV1.out.1 HV1.out.2 rfl (below_step bq b19) hs1).mono ?_; rintro e wq ⟨u_t5, rfl, own_t5, bel⟩; have bq := below_step bel bq; have own_t4 := own_t4.keep (Out.of_below bel 0 0) (.inr (Nat.zero_le _)); (try have hgr := zB.lt); (try have zB := zB.later bel); obtain ⟨Ap_t5, cp_t5, Aq_t5, cq_t5, rfl⟩ := own_t5.agg
    (try go_wp2_with fail)
    refine hK.out _ _ ?_ (fun hHeld => ?_)
    ·(try dsimp only); exact ⟨cell_later bq c_aD_0, cell_later bq c_aV_0, cell_later bq c_aV_1, cell_later bq c_aV_2⟩
    clear hK K
    try go_frame
    refine rgTwo 6 10 (by kernel_rfl) rfl rfl (by rfl) (by rfl) (fun K hK => ?_) (fun K hK => ?_)
    ·go_simp
     refine (implRem_law own_t4 ok_0.out own_t5 hs1 hl2 HA3.out HF.out.1 HTab.out (below_step bq b19)).mono ?_; rintro e wq ⟨vr, rfl, own_r, bel⟩; have hlo := bq.size; have bq := below_step bel bq; (try have hgr := zB.lt); (try have zB := zB.later bel); obtain ⟨Ar1, cr1, Ar2, cr2, rfl⟩ := own_r.agg
     (try go_wp2_with fail)
     refine hK.out _ _ ?_ (fun hHeld => ?_)
     ·(try dsimp only); exact ⟨cell_later bq c_aD_0, cell_later bq c_aV_0, cell_later bq c_aV_1, cell_later bq c_aV_2⟩
     clear hK K
     try go_frame
     refine rgTake 7 (some 105) hHeld _ ?_; try go_frame
     refine rgTake 8 (some 113) hHeld _ ?_; try go_frame
     refine rgTake 9 (some 114) hHeld _ ?_; try go_frame
     refine rgStep 10 (fun K hK => ?_)
     (try go_simp)
     have hge := bq.size; first | (have zB := b3_zero bq; have bq := bq.alloc bq.size zO; (try have own_t4 := own_t4.bal zO); (try have own_t5 := own_t5.bal zO); (try have own_r := own_r.bal zO); generalize wq.alloc zO = wa at *) | (have zB : B3 (W19.alloc zO).drew W19.heap.size (.int .i64 0) (.slice none 0 0) (.slice none 0 0) := b3_zero bq; have bq : Below W19.heap.size W19 (W19.alloc zO).drew := bq.alloc bq.size zO; generalize (W19.alloc zO).drew = wa at *)
     refine hK.out _ _ ?_ (fun hHeld => ?_)
     ·(try dsimp only); exact ⟨cell_later bq c_aD_0, cell_later bq c_aV_0, cell_later bq c_aV_1, cell_later bq c_aV_2⟩
     clear hK K
     try go_frame
     refine rgStep 11 (fun K hK => ?_)
     (try go_simp)
     have own_r := own_r.set3 (by first | exact .inr hgr | exact .inl (Nat.le_refl _)) (.int .i64 FX.n) (.slice Ar1 FX.b.length cr1) (.slice Ar2 FX.items.length cr2); have bq := below_set3 bq hge (.int .i64 FX.n) (.slice Ar1 FX.b.length cr1) (.slice Ar2 FX.items.length cr2); have zB0 := zB; obtain ⟨zl, z0, z1, z2, y0, y1, y2⟩ := zB0; go_simp; have zB := zB.set (.int .i64 FX.n) (.slice Ar1 FX.b.length cr1) (.slice Ar2 FX.items.length cr2)
     refine hK.out _ _ ?_ (fun hHeld => ?_)
     ·(try dsimp only); exact ⟨cell_later bq c_aD_0, cell_later bq c_aV_0, cell_later bq c_aV_1, cell_later bq c_aV_2⟩
     clear hK K
     try go_frame
     refine rgTake 12 (some 20) hHeld _ ?_; try go_frame
     refine wpAnyH_done (by kernel_rfl) ?_ _
     go_wp2_with fail
     go_meet
     exact ⟨_, _, _, _, _, _, _, rfl, rfl, zB, own_r, hlo, trivial, (by first | exact Nat.le_of_lt zB.lt | simp), hge, bq⟩
    ·(try go_simp)
     have hge := bq.size; first | (have zB := b3_zero bq; have bq := bq.alloc bq.size zO; (try have own_t4 := own_t4.bal zO); (try have own_t5 := own_t5.bal zO); (try have own_r := own_r.bal zO); generalize wq.alloc zO = wa at *) | (have zB : B3 (W19.alloc zO).drew W19.heap.size (.int .i64 0) (.slice none 0 0) (.slice none 0 0) := b3_zero bq; have bq : Below W19.heap.size W19 (W19.alloc zO).drew := bq.alloc bq.size zO; generalize (W19.alloc zO).drew = wa at *)
     refine hK.out _ _ ?_ (fun hHeld => ?_)
     ·(try dsimp only); exact ⟨cell_later bq c_aD_0, cell_later bq c_aV_0, cell_later bq c_aV_1, cell_later bq c_aV_2⟩
     clear hK K
     try go_frame
     refine rgStep 6 (fun K hK => ?_)
     go_simp
     refine (implRem_law own_t4 ok_0.out own_t5 hs1 hl2 HA3.out HF.out.1 HTab.out (below_step bq b19)).mono ?_; rintro e wq ⟨vr, rfl, own_r, bel⟩; have hlo := bq.size; have bq := below_step bel bq; (try have hgr := zB.lt); (try have zB := zB.later bel); obtain ⟨Ar1, cr1, Ar2, cr2, rfl⟩ := own_r.agg
     (try go_wp2_with fail)
     refine hK.out _ _ ?_ (fun hHeld => ?_)
     ·(try dsimp only); exact ⟨cell_later bq c_aD_0, cell_later bq c_aV_0, cell_later bq c_aV_1, cell_later bq c_aV_2⟩
     clear hK K
     try go_frame
     refine rgTake 7 (some 105) hHeld _ ?_; try go_frame
     refine rgTake 8 (some 113) hHeld _ ?_; try go_frame
     refine rgTake 9 (some 114) hHeld _ ?_; try go_frame
     refine rgStep 11 (fun K hK => ?_)
     (try go_simp)
     have own_r := own_r.set3 (by first | exact .inr hgr | exact .inl (Nat.le_refl _)) (.int .i64 FX.n) (.slice Ar1 FX.b.length cr1) (.slice Ar2 FX.items.length cr2); have bq := below_set3 bq hge (.int .i64 FX.n) (.slice Ar1 FX.b.length cr1) (.slice Ar2 FX.items.length cr2); have zB0 := zB; obtain ⟨zl, z0, z1, z2, y0, y1, y2⟩ := zB0; go_simp; have zB := zB.set (.int .i64 FX.n) (.slice Ar1 FX.b.length cr1) (.slice Ar2 FX.items.length cr2)
     refine hK.out _ _ ?_ (fun hHeld => ?_)
     ·(try dsimp only); exact ⟨cell_later bq c_aD_0, cell_later bq c_aV_0, cell_later bq c_aV_1, cell_later bq c_aV_2⟩
     clear hK K
     try go_frame
     refine rgTake 12 (some 20) hHeld _ ?_; try go_frame
     refine wpAnyH_done (by kernel_rfl) ?_ _
     go_wp2_with fail
     go_meet
     exact ⟨_, _, _, _, _, _, _, rfl, rfl, zB, own_r, hlo, trivial, (by first | exact Nat.le_of_lt zB.lt | simp), hge, bq⟩
   ·(try go_simp)
    have hge := bq.size; first | (have zB := b3_zero bq; have bq := bq.alloc bq.size zO; (try have own_t4 := own_t4.bal zO); (try have own_t5 := own_t5.bal zO); (try have own_r := own_r.bal zO); generalize wq.alloc zO = wa at *) | (have zB : B3 (W19.alloc zO).drew W19.heap.size (.int .i64 0) (.slice none 0 0) (.slice none 0 0) := b3_zero bq; have bq : Below W19.heap.size W19 (W19.alloc zO).drew := bq.alloc bq.size zO; generalize (W19.alloc zO).drew = wa at *)
    refine hK.out _ _ ?_ (fun hHeld => ?_)
    ·(try dsimp only); exact ⟨cell_later bq c_aD_0, cell_later bq c_aV_0, cell_later bq c_aV_1, cell_later bq c_aV_2⟩
    clear hK K
    try go_frame
    refine rgStep 3 (fun K hK => ?_)
    go_simp
    refine (toV_law HV1.out.1 HV1.out.2 rfl (below_step bq b19) hs1).mono ?_; rintro e wq ⟨u_t5, rfl, own_t5, bel⟩; have bq := below_step bel bq; have own_t4 := own_t4.keep (Out.of_below bel 0 0) (.inr (Nat.zero_le _)); (try have hgr := zB.lt); (try have zB := zB.later bel); obtain ⟨Ap_t5, cp_t5, Aq_t5, cq_t5, rfl⟩ := own_t5.agg
    (try go_wp2_with fail)
    refine hK.out _ _ ?_ (fun hHeld => ?_)
    ·(try dsimp only); exact ⟨cell_later bq c_aD_0, cell_later bq c_aV_0, cell_later bq c_aV_1, cell_later bq c_aV_2⟩
    clear hK K
    try go_frame
    refine rgStep 6 (fun K hK => ?_)
    go_simp
    refine (implRem_law own_t4 ok_0.out own_t5 hs1 hl2 HA3.out HF.out.1 HTab.out (below_step bq b19)).mono ?_; rintro e wq ⟨vr, rfl, own_r, bel⟩; have hlo := bq.size; have bq := below_step bel bq; (try have hgr := zB.lt); (try have zB := zB.later bel); obtain ⟨Ar1, cr1, Ar2, cr2, rfl⟩ := own_r.agg
    (try go_wp2_with fail)
    refine hK.out _ _ ?_ (fun hHeld => ?_)
    ·(try dsimp only); exact ⟨cell_later bq c_aD_0, cell_later bq c_aV_0, cell_later bq c_aV_1, cell_later bq c_aV_2⟩
    clear hK K
    try go_frame
    refine rgTake 7 (some 105) hHeld _ ?_; try go_frame
    refine rgTake 8 (some 113) hHeld _ ?_; try go_frame
    refine rgTake 9 (some 114) hHeld _ ?_; try go_frame
    refine rgStep 11 (fun K hK => ?_)
    (try go_simp)
    have own_r := own_r.set3 (by first | exact .inr hgr | exact .inl (Nat.le_refl _)) (.int .i64 FX.n) (.slice Ar1 FX.b.length cr1) (.slice Ar2 FX.items.length cr2); have bq := below_set3 bq hge (.int .i64 FX.n) (.slice Ar1 FX.b.length cr1) (.slice Ar2 FX.items.length cr2); have zB0 := zB; obtain ⟨zl, z0, z1, z2, y0, y1, y2⟩ := zB0; go_simp; have zB := zB.set (.int .i64 FX.n) (.slice Ar1 FX.b.length cr1) (.slice Ar2 FX.items.length cr2)
    refine hK.out _ _ ?_ (fun hHeld => ?_)
    ·(try dsimp only); exact ⟨cell_later bq c_aD_0, cell_later bq c_aV_0, cell_later bq c_aV_1, cell_later bq c_aV_2⟩
    clear hK K
    try go_frame
    refine rgTake 12 (some 20) hHeld _ ?_; try go_frame
    refine wpAnyH_done (by kernel_rfl) ?_ _
    go_wp2_with fail
    go_meet
    exact ⟨_, _, _, _, _, _, _, rfl, rfl, zB, own_r, hlo, trivial, (by first | exact Nat.le_of_lt zB.lt | simp), hge, bq⟩
  ·(try go_simp)
   have hge := bq.size; first | (have zB := b3_zero bq; have bq := bq.alloc bq.size zO; (try have own_t4 := own_t4.bal zO); (try have own_t5 := own_t5.bal zO); (try have own_r := own_r.bal zO); generalize wq.alloc zO = wa at *) | (have zB : B3 (W19.alloc zO).drew W19.heap.size (.int .i64 0) (.slice none 0 0) (.slice none 0 0) := b3_zero bq; have bq : Below W19.heap.size W19 (W19.alloc zO).drew := bq.alloc bq.size zO; generalize (W19.alloc zO).drew = wa at *)
   refine hK.out _ _ ?_ (fun hHeld => ?_)
   ·(try dsimp only); exact ⟨cell_later bq c_aD_0, cell_later bq c_aV_0, cell_later bq c_aV_1, cell_later bq c_aV_2⟩
   clear hK K
   try go_frame
   refine rgStep 1 (fun K hK => ?_)
   go_simp
   refine (toD_law hA0 (below_step bq b19) hs0 HD0.out).mono ?_; rintro e wq ⟨t4, rfl, own_t4, bel⟩; have bq := below_step bel bq; (try have hgr := zB.lt); (try have zB := zB.later bel); obtain ⟨A_t4, c_t4, rfl⟩ := own_t4.slice
   (try go_wp2_with fail)
   refine hK.out _ _ ?_ (fun hHeld => ?_)
   ·(try dsimp only); exact ⟨cell_later bq c_aD_0, cell_later bq c_aV_0, cell_later bq c_aV_1, cell_later bq c_aV_2⟩
   clear hK K
   try go_frame
   refine rgStep 3 (fun K hK => ?_)
   go_simp
   refine (toV_law HV1.out.1 HV1.out.2 rfl (below_step bq b19) hs1).mono ?_; rintro e wq ⟨u_t5, rfl, own_t5, bel⟩; have bq := below_step bel bq; have own_t4 := own_t4.keep (Out.of_below bel 0 0) (.inr (Nat.zero_le _)); (try have hgr := zB.lt); (try have zB := zB.later bel); obtain ⟨Ap_t5, cp_t5, Aq_t5, cq_t5, rfl⟩ := own_t5.agg
   (try go_wp2_with fail)
   refine hK.out _ _ ?_ (fun hHeld => ?_)
   ·(try dsimp only); exact ⟨cell_later bq c_aD_0, cell_later bq c_aV_0, cell_later bq c_aV_1, cell_later bq c_aV_2⟩
   clear hK K
   try go_frame
   refine rgStep 6 (fun K hK => ?_)
   go_simp
   refine (implRem_law own_t4 ok_0.out own_t5 hs1 hl2 HA3.out HF.out.1 HTab.out (below_step bq b19)).mono ?_; rintro e wq ⟨vr, rfl, own_r, bel⟩; have hlo := bq.size; have bq := below_step bel bq; (try have hgr := zB.lt); (try have zB := zB.later bel); obtain ⟨Ar1, cr1, Ar2, cr2, rfl⟩ := own_r.agg
   (try go_wp2_with fail)
   refine hK.out _ _ ?_ (fun hHeld => ?_)
   ·(try dsimp only); exact ⟨cell_later bq c_aD_0, cell_later bq c_aV_0, cell_later bq c_aV_1, cell_later bq c_aV_2⟩
   clear hK K
   try go_frame
   refine rgTake 7 (some 105) hHeld _ ?_; try go_frame
   refine rgTake 8 (some 113) hHeld _ ?_; try go_frame
   refine rgTake 9 (some 114) hHeld _ ?_; try go_frame
   refine rgStep 11 (fun K hK => ?_)
   (try go_simp)
   have own_r := own_r.set3 (by first | exact .inr hgr | exact .inl (Nat.le_refl _)) (.int .i64 FX.n) (.slice Ar1 FX.b.length cr1) (.slice Ar2 FX.items.length cr2); have bq := below_set3 bq hge (.int .i64 FX.n) (.slice Ar1 FX.b.length cr1) (.slice Ar2 FX.items.length cr2); have zB0 := zB; obtain ⟨zl, z0, z1, z2, y0, y1, y2⟩ := zB0; go_simp; have zB := zB.set (.int .i64 FX.n) (.slice Ar1 FX.b.length cr1) (.slice Ar2 FX.items.length cr2)
   refine hK.out _ _ ?_ (fun hHeld => ?_)
   ·(try dsimp only); exact ⟨cell_later bq c_aD_0, cell_later bq c_aV_0, cell_later bq c_aV_1, cell_later bq c_aV_2⟩
   clear hK K
   try go_frame
   refine rgTake 12 (some 20) hHeld _ ?_; try go_frame
   refine wpAnyH_done (by kernel_rfl) ?_ _
   go_wp2_with fail
   go_meet
   exact ⟨_, _, _, _, _, _, _, rfl, rfl, zB, own_r, hlo, trivial, (by first | exact Nat.le_of_lt zB.lt | simp), hge, bq⟩
 obtain ⟨bq_h0, A_h0, c_h0, A2_h0, c2_h0, lo_h0, hi_h0, rfl, rfl, zb_h0, own_h0, hlo_h0, far_h0, hhi_h0, hge_h0, bel20⟩ := hcut
 obtain ⟨W20, hWc⟩ : ∃ W9 : World, W9 = wc := ⟨_, rfl⟩
 subst hWc
 have b20 := below_step bel20 b19
 have s20 := bel20.size
 have p20 : w.heap.size ≤ W20.heap.size := b20.size
 have own_w0 := own_w0.keep (Out.of_below bel20 0 0) (.inr (Nat.zero_le _))
 have mk_g0 := mk_g0.keep (Out.of_below bel20 0 0) (.inr (Nat.zero_le _))
 have c_aD_0 := cell_later bel20 c_aD_0
 have c_aV_0 := cell_later bel20 c_aV_0
 have c_aV_1 := cell_later bel20 c_aV_1
 have c_aV_2 := cell_later bel20 c_aV_2
 have K_aD := K_aD.later bel20
 have K_aV := K_aV.later bel20
 have K_w0 := K_w0.later bel20
 have K_x0 := K_x0.later bel20
 have K_x1 := K_x1.later bel20
 have K_g0 := K_g0.later bel20
 have lt_h0 := zb_h0.lt
 have K_h0 := zb_h0.k3
 clear zb_h0
 clear c_aD_0 c_aV_0 c_aV_1 c_aV_2
 have c_w0_0 := K_w0.c0
 have c_w0_1 := K_w0.c1
 have c_w0_2 := K_w0.c2
 have c_h0_0 := K_h0.c0
 have c_h0_1 := K_h0.c1
 have c_h0_2 := K_h0.c2
 go_wp2_with fail
 refine (eqV_law own_h0 own_w0).mono ?_
 rintro e W21 ⟨rfl, bel21⟩
 have b21 := below_step bel21 b20
 have s21 := bel21.size
 have p21 : w.heap.size ≤ W21.heap.size := b21.size
 have own_w0 := own_w0.keep (Out.of_below bel21 0 0) (.inr (Nat.zero_le _))
 have mk_g0 := mk_g0.keep (Out.of_below bel21 0 0) (.inr (Nat.zero_le _))
 have own_h0 := own_h0.keep (Out.of_below bel21 0 0) (.inr (Nat.zero_le _))
 have c_w0_0 := cell_later bel21 c_w0_0
 have c_w0_1 := cell_later bel21 c_w0_1
 have c_w0_2 := cell_later bel21 c_w0_2
 have c_h0_0 := cell_later bel21 c_h0_0
 have c_h0_1 := cell_later bel21 c_h0_1
 have c_h0_2 := cell_later bel21 c_h0_2
 have K_aD := K_aD.later bel21
 have K_aV := K_aV.later bel21
 have K_w0 := K_w0.later bel21
 have K_x0 := K_x0.later bel21
 have K_x1 := K_x1.later bel21
 have K_g0 := K_g0.later bel21
 have K_h0 := K_h0.later bel21
 clear c_w0_0 c_w0_1 c_w0_2 c_h0_0 c_h0_1 c_h0_2
 have c_g0_0 := K_g0.c0
 have c_g0_1 := K_g0.c1
 have c_g0_2 := K_g0.c2
 go_wp2_with fail
 refine (heldV_law mk_g0).mono ?_
 rintro e W22 ⟨rfl, bel22⟩
 have b22 := below_step bel22 b21
 have s22 := bel22.size
 have p22 : w.heap.size ≤ W22.heap.size := b22.size
 have own_w0 := own_w0.keep (Out.of_below bel22 0 0) (.inr (Nat.zero_le _))
 have mk_g0 := mk_g0.keep (Out.of_below bel22 0 0) (.inr (Nat.zero_le _))
 have own_h0 := own_h0.keep (Out.of_below bel22 0 0) (.inr (Nat.zero_le _))
 have c_g0_0 := cell_later bel22 c_g0_0
 have c_g0_1 := cell_later bel22 c_g0_1
 have c_g0_2 := cell_later bel22 c_g0_2
 have K_aD := K_aD.later bel22
 have K_aV := K_aV.later bel22
 have K_w0 := K_w0.later bel22
 have K_x0 := K_x0.later bel22
 have K_x1 := K_x1.later bel22
 have K_g0 := K_g0.later bel22
 have K_h0 := K_h0.later bel22
 clear c_g0_0 c_g0_1 c_g0_2
 have HB := Lib.hid b22
 clear own_w0 mk_g0 own_h0 hA0 ok0 hA2
 go_wp2
 go_ret
 exact ⟨rfl, HB.out⟩
end Go.Proofs.YtbmoeefnoiecaaaGreatDoor.FnExactRemoveItem
