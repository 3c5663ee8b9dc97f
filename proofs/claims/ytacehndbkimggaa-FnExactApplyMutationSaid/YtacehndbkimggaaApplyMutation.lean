/- The walk of the law FnExactApplyMutation. No condition but those of its arguments. -/
import Derived.Test.YtacehndbkimggaaMutApply
import Derived.Test.YtacehndbkimggaaMutApplyI
import Derived.Test.YtacehndbkimggaaMarks
import Derived.Test.YtacehndbkimggaaByte
import Derived.WalkSpells
import Derived.WalkLawsBesides
import Derived.Deep.RegionHeld3
namespace Go.Proofs.Ytacehndbkimggaa
open Go.RowKit
theorem mutL_len (l : List UInt8) (m : Muta) : (mutL l m).length ≤ l.length + 1 := by
  unfold mutL
  split
  · have h : ∀ p r (i : List UInt8), i.length ≤ 1 → (spliceL l p r i).length ≤ l.length + 1 := fun p r i hi => by
      unfold spliceL; simp only [List.length_append, List.length_take, List.length_drop]; omega
    split
    · exact h _ _ _ (by simp)
    · split
      · exact h _ _ _ (by simp)
      · exact h _ _ _ (by simp)
  · omega
end Go.Proofs.Ytacehndbkimggaa
namespace Go.Proofs.Ytacehndbkimggaa.FnExactApplyMutation
open Go.RowKit
set_option maxHeartbeats 2000000 in
set_option maxRecDepth 100000 in
theorem walk (v : Value) (l : List UInt8) (x : Muta) (w : World) (h : SlB w w.heap.size v l) (hx : x.ok) :
    Calls Try.prog 3 #[v, mutV x] w fun e w' => e = .returned (.bool true) ∧ Below w.heap.size w w' := by
  have h' := h
  obtain ⟨A, c, rfl, hc, hm, _⟩ := h'.open_
  unfold maxLen at hm
  unfold mutV
  by_cases hbig : 1048576 < (l.length : Int)
  · clear h h'
    go_enter Try.func3, Try.ntmps3
    go_wp2
    go_ret
    exact ⟨rfl, (by repeat (first | exact Below.refl _ _ | assumption | refine Below.alloc ?_ (by simp <;> omega) _ | refine Below.setCell ?_ (by simp <;> omega) _ | refine Below.drew ?_ | refine below_drewN ?_ _))⟩
  have hl : l.length ≤ 1048576 := by omega
  have hil := mutL_len l x
  go_enter Try.func3, Try.ntmps3
  have b0 : Below w.heap.size w (w.alloc (.cells #[.int .i64 x.kind, .int .i64 x.pos, .int .i64 x.byte] 24)) := ((Below.refl _ _).alloc (Nat.le_refl _) _)
  have k0 : (w.alloc (.cells #[.int .i64 x.kind, .int .i64 x.pos, .int .i64 x.byte] 24)).cell? ⟨w.heap.size, 0, none⟩ = some (.int .i64 x.kind) := by simp [go_sem]
  have k1 : (w.alloc (.cells #[.int .i64 x.kind, .int .i64 x.pos, .int .i64 x.byte] 24)).cell? ⟨w.heap.size, 1, none⟩ = some (.int .i64 x.pos) := by simp [go_sem]
  have k2 : (w.alloc (.cells #[.int .i64 x.kind, .int .i64 x.pos, .int .i64 x.byte] 24)).cell? ⟨w.heap.size, 2, none⟩ = some (.int .i64 x.byte) := by simp [go_sem]
  go_wp2_with fail
  go_region_held3 (fun w' => w'.cell? ⟨w.heap.size, 0, none⟩ = some (.int .i64 x.kind) ∧ w'.cell? ⟨w.heap.size, 1, none⟩ = some (.int .i64 x.pos) ∧ w'.cell? ⟨w.heap.size, 2, none⟩ = some (.int .i64 x.byte))
    (first | exact ⟨k0, k1, k2⟩ | exact ⟨(cell_later bel3 (cell_later bel2 (cell_later bel1 k0))), (cell_later bel3 (cell_later bel2 (cell_later bel1 k1))), (cell_later bel3 (cell_later bel2 (cell_later bel1 k2)))⟩ | exact ⟨(cell_later bel2 (cell_later bel1 k0)), (cell_later bel2 (cell_later bel1 k1)), (cell_later bel2 (cell_later bel1 k2))⟩ | exact ⟨(cell_later bel1 k0), (cell_later bel1 k1), (cell_later bel1 k2)⟩)
    (first
      | (go_at_call 11; refine (toByteS_any _ l _ _ (h.below (b0.drew)) (Below.size (b0.drew)) (by omega)).mono ?_; rintro e w1 ⟨vq, rfl, ownvq, bel1⟩)
      | (go_at_call 12; refine (toMutation_any x _).mono ?_; rintro e w2 ⟨rfl, bel2⟩)
      | (go_at_call 10; refine (specApply_any vq l x _ _ (own_u8 (own_below ownvq bel2 (Nat.le_refl _))) (Nat.le_refl _) (by omega) hx).mono ?_; rintro e w3 ⟨vs, rfl, ownvs, bel3⟩))
  have ew1 : (w.alloc (.cells #[.int .i64 x.kind, .int .i64 x.pos, .int .i64 x.byte] 24)).drew.heap.size = (w.alloc (.cells #[.int .i64 x.kind, .int .i64 x.pos, .int .i64 x.byte] 24)).heap.size := rfl
  have b1 := below_step bel1 b0.drew
  have k0 : w1.cell? ⟨w.heap.size, 0, none⟩ = some (.int .i64 x.kind) := cell_later bel1 k0
  have k1 : w1.cell? ⟨w.heap.size, 1, none⟩ = some (.int .i64 x.pos) := cell_later bel1 k1
  have k2 : w1.cell? ⟨w.heap.size, 2, none⟩ = some (.int .i64 x.byte) := cell_later bel1 k2
  have s1 := bel1.size
  have Gvq : ∀ k, vq.ownBlock = some k → (w.alloc (.cells #[.int .i64 x.kind, .int .i64 x.pos, .int .i64 x.byte] 24)).drew.heap.size ≤ k := fun k hk => (ownvq.lt k hk).1
  have Lvq : ∀ k, vq.ownBlock = some k → k < w1.heap.size := fun k hk => (ownvq.lt k hk).2
  have b2 := below_step bel2 b1
  have ownvq := own_below ownvq bel2 (Nat.le_refl _)
  have k0 : w2.cell? ⟨w.heap.size, 0, none⟩ = some (.int .i64 x.kind) := cell_later bel2 k0
  have k1 : w2.cell? ⟨w.heap.size, 1, none⟩ = some (.int .i64 x.pos) := cell_later bel2 k1
  have k2 : w2.cell? ⟨w.heap.size, 2, none⟩ = some (.int .i64 x.byte) := cell_later bel2 k2
  have s2 := bel2.size
  have b3 := below_step bel3 b2
  have ownvq := own_below ownvq bel3 (Nat.le_refl _)
  have k0 : w3.cell? ⟨w.heap.size, 0, none⟩ = some (.int .i64 x.kind) := cell_later bel3 k0
  have k1 : w3.cell? ⟨w.heap.size, 1, none⟩ = some (.int .i64 x.pos) := cell_later bel3 k1
  have k2 : w3.cell? ⟨w.heap.size, 2, none⟩ = some (.int .i64 x.byte) := cell_later bel3 k2
  have s3 := bel3.size
  have Gvs : ∀ k, vs.ownBlock = some k → w2.heap.size ≤ k := fun k hk => (ownvs.lt k hk).1
  have Lvs : ∀ k, vs.ownBlock = some k → k < w3.heap.size := fun k hk => (ownvs.lt k hk).2
  clear ownvq
  have b_vx : w.heap.size ≤ w3.heap.size := b3.size
  have x_vx : w.heap.size < w3.heap.size := World.block_lt_of_cell? _ _ k2
  go_wp2_with fail
  refine (toByteS_any _ l _ _ (h.below b3) (Below.size b3) (by omega)).mono ?_
  rintro e w4 ⟨vx, rfl, ownvx, bel4⟩
  have b4 := below_step bel4 b3
  have ownvs := own_below ownvs bel4 (Nat.le_refl _)
  have k0 : w4.cell? ⟨w.heap.size, 0, none⟩ = some (.int .i64 x.kind) := cell_later bel4 k0
  have k1 : w4.cell? ⟨w.heap.size, 1, none⟩ = some (.int .i64 x.pos) := cell_later bel4 k1
  have k2 : w4.cell? ⟨w.heap.size, 2, none⟩ = some (.int .i64 x.byte) := cell_later bel4 k2
  have s4 := bel4.size
  have Gvx : ∀ k, vx.ownBlock = some k → w3.heap.size ≤ k := fun k hk => (ownvx.lt k hk).1
  have Lvx : ∀ k, vx.ownBlock = some k → k < w4.heap.size := fun k hk => (ownvx.lt k hk).2
  go_wp2_with fail
  refine (toMutation_any x _).mono ?_
  rintro e w5 ⟨rfl, bel5⟩
  have b5 := below_step bel5 b4
  have ownvs := own_below ownvs bel5 (Nat.le_refl _)
  have ownvx := own_below ownvx bel5 (Nat.le_refl _)
  have k0 : w5.cell? ⟨w.heap.size, 0, none⟩ = some (.int .i64 x.kind) := cell_later bel5 k0
  have k1 : w5.cell? ⟨w.heap.size, 1, none⟩ = some (.int .i64 x.pos) := cell_later bel5 k1
  have k2 : w5.cell? ⟨w.heap.size, 2, none⟩ = some (.int .i64 x.byte) := cell_later bel5 k2
  have s5 := bel5.size
  have b_vg : w.heap.size ≤ w5.heap.size := b5.size
  have x_vg : w.heap.size < w5.heap.size := World.block_lt_of_cell? _ _ k2
  go_wp2_with fail
  refine (implApply_any vx l x _ _ (own_u8 ownvx) (Nat.le_refl _) (by omega) hx).mono ?_
  rintro e w6 ⟨vg, rfl, ownvg, bel6⟩
  have b6 := below_step bel6 b5
  have ownvs := own_below ownvs bel6 (Nat.le_refl _)
  have ownvx := own_below ownvx bel6 (Nat.le_refl _)
  have k0 : w6.cell? ⟨w.heap.size, 0, none⟩ = some (.int .i64 x.kind) := cell_later bel6 k0
  have k1 : w6.cell? ⟨w.heap.size, 1, none⟩ = some (.int .i64 x.pos) := cell_later bel6 k1
  have k2 : w6.cell? ⟨w.heap.size, 2, none⟩ = some (.int .i64 x.byte) := cell_later bel6 k2
  have s6 := bel6.size
  have Gvg : ∀ k, vg.ownBlock = some k → w5.heap.size ≤ k := fun k hk => (ownvg.lt k hk).1
  have Lvg : ∀ k, vg.ownBlock = some k → k < w6.heap.size := fun k hk => (ownvg.lt k hk).2
  go_wp2_with fail
  refine (eqByteS_any vg vs (mutL l x) (mutL l x) _ _ _ (own_u8 ownvg) (own_u8 ownvs)).mono ?_
  rintro e w7 ⟨rfl, n7, rfl⟩
  rw [beq_self_eq_true]
  have b7 : Below w.heap.size w (w6.drewN n7) := below_drewN b6 n7
  have e7 : (w6.drewN n7).heap.size = w6.heap.size := rfl
  have ownvs : (w6.drewN n7).ownsRow _ _ _ _ _ _ := ownvs
  have ownvx : (w6.drewN n7).ownsRow _ _ _ _ _ _ := ownvx
  have ownvg : (w6.drewN n7).ownsRow _ _ _ _ _ _ := ownvg
  have k0 : (w6.drewN n7).cell? ⟨w.heap.size, 0, none⟩ = some (.int .i64 x.kind) := k0
  have k1 : (w6.drewN n7).cell? ⟨w.heap.size, 1, none⟩ = some (.int .i64 x.pos) := k1
  have k2 : (w6.drewN n7).cell? ⟨w.heap.size, 2, none⟩ = some (.int .i64 x.byte) := k2
  have b_vy : w.heap.size ≤ (w6.drewN n7).heap.size := b7.size
  have x_vy : w.heap.size < (w6.drewN n7).heap.size := World.block_lt_of_cell? _ _ k2
  go_wp2_with fail
  refine (toByteS_any _ l _ _ (h.below b7) (Below.size b7) (by omega)).mono ?_
  rintro e w8 ⟨vy, rfl, ownvy, bel8⟩
  have b8 := below_step bel8 b7
  have ownvs := own_below ownvs bel8 (Nat.le_refl _)
  have ownvx := own_below ownvx bel8 (Nat.le_refl _)
  have ownvg := own_below ownvg bel8 (Nat.le_refl _)
  have k0 : w8.cell? ⟨w.heap.size, 0, none⟩ = some (.int .i64 x.kind) := cell_later bel8 k0
  have k1 : w8.cell? ⟨w.heap.size, 1, none⟩ = some (.int .i64 x.pos) := cell_later bel8 k1
  have k2 : w8.cell? ⟨w.heap.size, 2, none⟩ = some (.int .i64 x.byte) := cell_later bel8 k2
  have s8 := bel8.size
  have Gvy : ∀ k, vy.ownBlock = some k → (w6.drewN n7).heap.size ≤ k := fun k hk => (ownvy.lt k hk).1
  have Lvy : ∀ k, vy.ownBlock = some k → k < w8.heap.size := fun k hk => (ownvy.lt k hk).2
  go_wp2_with fail
  refine (eqByteS_any vx vy l l _ _ _ (own_u8 ownvx) (own_u8 ownvy)).mono ?_
  rintro e w9 ⟨rfl, n9, rfl⟩
  rw [beq_self_eq_true]
  have b9 : Below w.heap.size w (w8.drewN n9) := below_drewN b8 n9
  have e9 : (w8.drewN n9).heap.size = w8.heap.size := rfl
  have ownvs : (w8.drewN n9).ownsRow _ _ _ _ _ _ := ownvs
  have ownvx : (w8.drewN n9).ownsRow _ _ _ _ _ _ := ownvx
  have ownvg : (w8.drewN n9).ownsRow _ _ _ _ _ _ := ownvg
  have ownvy : (w8.drewN n9).ownsRow _ _ _ _ _ _ := ownvy
  have k0 : (w8.drewN n9).cell? ⟨w.heap.size, 0, none⟩ = some (.int .i64 x.kind) := k0
  have k1 : (w8.drewN n9).cell? ⟨w.heap.size, 1, none⟩ = some (.int .i64 x.pos) := k1
  have k2 : (w8.drewN n9).cell? ⟨w.heap.size, 2, none⟩ = some (.int .i64 x.byte) := k2
  clear ownvy
  go_wp2_with fail
  refine (mark2_any vx l.length (u8s l) _ _ ownvx (by omega)).mono ?_
  rintro e w10 ⟨rfl, ownvx, hg10⟩
  have b10 := below_mark hg10 (fun k hk => by have := Gvx k hk; have := b_vx; omega) b9.size b9
  have ownvs := ownvs.kept hg10 (far_of' Lvs Gvx (by omega))
  have ownvg := ownvg.kept hg10 (far_of Lvx Gvg (by omega))
  have hne10_0 : some (w.heap.size) ≠ vx.ownBlock := fun e => by have := Gvx _ e.symm; have := x_vx; omega
  have k0 : w10.cell? ⟨w.heap.size, 0, none⟩ = some (.int .i64 x.kind) := hg10.cell (a := ⟨w.heap.size, 0, none⟩) k0 hne10_0
  have k1 : w10.cell? ⟨w.heap.size, 1, none⟩ = some (.int .i64 x.pos) := hg10.cell (a := ⟨w.heap.size, 1, none⟩) k1 hne10_0
  have k2 : w10.cell? ⟨w.heap.size, 2, none⟩ = some (.int .i64 x.byte) := hg10.cell (a := ⟨w.heap.size, 2, none⟩) k2 hne10_0
  clear ownvx
  have hnn : decide ((1 : Int) + l.length < 0) = false := decide_eq_false (by omega)
  go_wp2_with fail
  refine (eqByteS_any vg vs (mutL l x) (mutL l x) _ _ _ (own_u8 ownvg) (own_u8 ownvs)).mono ?_
  rintro e w11 ⟨rfl, n11, rfl⟩
  rw [beq_self_eq_true]
  have b11 : Below w.heap.size w (w10.drewN n11) := below_drewN b10 n11
  have e11 : (w10.drewN n11).heap.size = w10.heap.size := rfl
  have ownvs : (w10.drewN n11).ownsRow _ _ _ _ _ _ := ownvs
  have ownvg : (w10.drewN n11).ownsRow _ _ _ _ _ _ := ownvg
  have k0 : (w10.drewN n11).cell? ⟨w.heap.size, 0, none⟩ = some (.int .i64 x.kind) := k0
  have k1 : (w10.drewN n11).cell? ⟨w.heap.size, 1, none⟩ = some (.int .i64 x.pos) := k1
  have k2 : (w10.drewN n11).cell? ⟨w.heap.size, 2, none⟩ = some (.int .i64 x.byte) := k2
  go_wp2_with fail
  refine (mark2_any vg _ _ _ _ ownvg (by omega)).mono ?_
  rintro e w12 ⟨rfl, ownvg, hg12⟩
  have b12 := below_mark hg12 (fun k hk => by have := Gvg k hk; have := b_vg; omega) b11.size b11
  have ownvs := ownvs.kept hg12 (far_of' Lvs Gvg (by omega))
  have hne12_0 : some (w.heap.size) ≠ vg.ownBlock := fun e => by have := Gvg _ e.symm; have := x_vg; omega
  have k0 : w12.cell? ⟨w.heap.size, 0, none⟩ = some (.int .i64 x.kind) := hg12.cell (a := ⟨w.heap.size, 0, none⟩) k0 hne12_0
  have k1 : w12.cell? ⟨w.heap.size, 1, none⟩ = some (.int .i64 x.pos) := hg12.cell (a := ⟨w.heap.size, 1, none⟩) k1 hne12_0
  have k2 : w12.cell? ⟨w.heap.size, 2, none⟩ = some (.int .i64 x.byte) := hg12.cell (a := ⟨w.heap.size, 2, none⟩) k2 hne12_0
  have hnn2 : decide ((1 : Int) + (mutL l x).length < 0) = false := decide_eq_false (by omega)
  have hq : ((1 : Int) + ((mutL l x).length : Int) == 1 + ((mutL l x).length : Int)) = true := by simp
  go_wp2_with fail
  refine (held2_any vg _ _ _ (own_marks ownvg) (by omega)).mono ?_
  rintro e w13 ⟨rfl, rfl⟩
  go_wp2_with fail
  go_region_held3 (fun w' => w'.cell? ⟨w.heap.size, 0, none⟩ = some (.int .i64 x.kind) ∧ w'.cell? ⟨w.heap.size, 1, none⟩ = some (.int .i64 x.pos) ∧ w'.cell? ⟨w.heap.size, 2, none⟩ = some (.int .i64 x.byte))
    (first | exact ⟨k0, k1, k2⟩ | exact ⟨(cell_later bel16 (cell_later bel15 (cell_later bel14 k0))), (cell_later bel16 (cell_later bel15 (cell_later bel14 k1))), (cell_later bel16 (cell_later bel15 (cell_later bel14 k2)))⟩ | exact ⟨(cell_later bel15 (cell_later bel14 k0)), (cell_later bel15 (cell_later bel14 k1)), (cell_later bel15 (cell_later bel14 k2))⟩ | exact ⟨(cell_later bel14 k0), (cell_later bel14 k1), (cell_later bel14 k2)⟩)
    (first
      | (go_at_call 11; refine (toByteS_any _ l _ _ (h.below (b12.drew)) (Below.size (b12.drew)) (by omega)).mono ?_; rintro e w14 ⟨vr, rfl, ownvr, bel14⟩)
      | (go_at_call 12; refine (toMutation_any x _).mono ?_; rintro e w15 ⟨rfl, bel15⟩)
      | (go_at_call 13; refine (implApply_any vr l x _ _ (own_u8 (own_below ownvr bel15 (Nat.le_refl _))) (Nat.le_refl _) (by omega) hx).mono ?_; rintro e w16 ⟨vh, rfl, ownvh, bel16⟩))
  have ew14 : w12.drew.heap.size = w12.heap.size := rfl
  have b14 := below_step bel14 b12.drew
  have ownvs : w12.drew.ownsRow _ _ _ _ _ _ := ownvs
  have ownvs := own_below ownvs bel14 (Nat.le_refl _)
  have ownvg : w12.drew.ownsRow _ _ _ _ _ _ := ownvg
  have ownvg := own_below ownvg bel14 (Nat.le_refl _)
  have k0 : w14.cell? ⟨w.heap.size, 0, none⟩ = some (.int .i64 x.kind) := cell_later bel14 k0
  have k1 : w14.cell? ⟨w.heap.size, 1, none⟩ = some (.int .i64 x.pos) := cell_later bel14 k1
  have k2 : w14.cell? ⟨w.heap.size, 2, none⟩ = some (.int .i64 x.byte) := cell_later bel14 k2
  have s14 := bel14.size
  have Gvr : ∀ k, vr.ownBlock = some k → w12.drew.heap.size ≤ k := fun k hk => (ownvr.lt k hk).1
  have Lvr : ∀ k, vr.ownBlock = some k → k < w14.heap.size := fun k hk => (ownvr.lt k hk).2
  have b15 := below_step bel15 b14
  have ownvs := own_below ownvs bel15 (Nat.le_refl _)
  have ownvg := own_below ownvg bel15 (Nat.le_refl _)
  have ownvr := own_below ownvr bel15 (Nat.le_refl _)
  have k0 : w15.cell? ⟨w.heap.size, 0, none⟩ = some (.int .i64 x.kind) := cell_later bel15 k0
  have k1 : w15.cell? ⟨w.heap.size, 1, none⟩ = some (.int .i64 x.pos) := cell_later bel15 k1
  have k2 : w15.cell? ⟨w.heap.size, 2, none⟩ = some (.int .i64 x.byte) := cell_later bel15 k2
  have s15 := bel15.size
  have b16 := below_step bel16 b15
  have ownvs := own_below ownvs bel16 (Nat.le_refl _)
  have ownvg := own_below ownvg bel16 (Nat.le_refl _)
  have ownvr := own_below ownvr bel16 (Nat.le_refl _)
  have k0 : w16.cell? ⟨w.heap.size, 0, none⟩ = some (.int .i64 x.kind) := cell_later bel16 k0
  have k1 : w16.cell? ⟨w.heap.size, 1, none⟩ = some (.int .i64 x.pos) := cell_later bel16 k1
  have k2 : w16.cell? ⟨w.heap.size, 2, none⟩ = some (.int .i64 x.byte) := cell_later bel16 k2
  have s16 := bel16.size
  have Gvh : ∀ k, vh.ownBlock = some k → w15.heap.size ≤ k := fun k hk => (ownvh.lt k hk).1
  have Lvh : ∀ k, vh.ownBlock = some k → k < w16.heap.size := fun k hk => (ownvh.lt k hk).2
  clear ownvr
  go_wp2_with fail
  refine (eqByteS_any vh vs (mutL l x) (mutL l x) _ _ _ (own_u8 ownvh) (own_u8 ownvs)).mono ?_
  rintro e w17 ⟨rfl, n17, rfl⟩
  rw [beq_self_eq_true]
  have b17 : Below w.heap.size w (w16.drewN n17) := below_drewN b16 n17
  have e17 : (w16.drewN n17).heap.size = w16.heap.size := rfl
  have ownvs : (w16.drewN n17).ownsRow _ _ _ _ _ _ := ownvs
  have ownvg : (w16.drewN n17).ownsRow _ _ _ _ _ _ := ownvg
  have ownvh : (w16.drewN n17).ownsRow _ _ _ _ _ _ := ownvh
  have k0 : (w16.drewN n17).cell? ⟨w.heap.size, 0, none⟩ = some (.int .i64 x.kind) := k0
  have k1 : (w16.drewN n17).cell? ⟨w.heap.size, 1, none⟩ = some (.int .i64 x.pos) := k1
  have k2 : (w16.drewN n17).cell? ⟨w.heap.size, 2, none⟩ = some (.int .i64 x.byte) := k2
  clear ownvh
  clear ownvs
  go_wp2_with fail
  refine (held2_any vg _ _ _ (own_marks ownvg) (by omega)).mono ?_
  rintro e w18 ⟨rfl, rfl⟩
  have HB := Lib.hid b17
  clear ownvg h h'
  go_wp2
  go_ret
  exact ⟨rfl, HB.out⟩
end Go.Proofs.Ytacehndbkimggaa.FnExactApplyMutation
