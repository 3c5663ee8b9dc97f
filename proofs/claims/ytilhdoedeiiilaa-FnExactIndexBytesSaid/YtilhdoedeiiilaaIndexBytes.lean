/- The walks of IndexBytes, spec and impl, and of the law. Every []byte and every entry. -/
import Derived.Test.YtilhdoedeiiilaaRows
import Derived.Test.YtilhdoedeiiilaaApp
import Derived.Test.YtilhdoedeiiilaaNum
import Derived.Test.YtilhdoedeiiilaaEntry
import Derived.Test.YtilhdoedeiiilaaOpenEntry
import Derived.WalkSpells
import Derived.WalkLawsBesides
import Derived.Deep.RegionHeld3
namespace Go.Proofs.Ytilhdoedeiiilaa
open Go.RowKit

def idxL (l : List UInt8) (e : Ent) : List UInt8 := if 0 ≤ e.start ∧ e.start ≤ e.stop ∧ e.stop ≤ l.length then (l.drop e.start.toNat).take (e.stop.toNat - e.start.toNat) else []

set_option maxHeartbeats 2000000 in
set_option maxRecDepth 100000 in
theorem specIndexBytes_any (v : Value) (l : List UInt8) (x : Ent) (B : Nat) (w : World) (h : SlB w B v l) (hB : B ≤ w.heap.size) (hl : l.length ≤ 1048576) (hx : x.ok) :
    Calls Try.prog 31 #[v, entV x] w (Fresh w 5 1 (idxL l x).length (u8s (idxL l x))) := by
  obtain ⟨i0, hi, hz0, hz1, hz2⟩ := info_parts Try.info_u8
  have h0 := h
  obtain ⟨A, c, rfl, hc, hm, hcell⟩ := h.open_
  obtain ⟨_, _, ⟨hs0, hs1⟩, ⟨he0, he1⟩⟩ := hx
  unfold maxLen at hm
  clear hcell h
  unfold entV
  by_cases hin : 0 ≤ x.start ∧ x.start ≤ x.stop
  · by_cases hle : x.stop ≤ l.length
    · obtain ⟨p, hp⟩ := Int.eq_ofNat_of_zero_le hin.1
      obtain ⟨q, hq⟩ := Int.eq_ofNat_of_zero_le (show 0 ≤ x.stop by omega)
      have HI := Lib.hid (show idxL l x = (l.drop p).take (q - p) by rw [idxL, if_pos ⟨hin.1, hin.2, hle⟩, hp, hq]; rfl)
      have hb := inB_true hin.1 hin.2
      have hpq : p ≤ q := by omega
      have hql : q ≤ l.length := by omega
      have hcv := run_cutLH (P := Try.prog) Try.underlying23 Try.sizeOf5 A l.length c x.start x.stop p q hp hq hpq (by omega)
      have HX := Lib.hid (SlB.cut h0 p q c hpq hql (by omega) (by unfold maxLen; omega))
      have HL := Lib.hid (show (idxL l x).length = q - p by rw [HI.out, List.length_take, List.length_drop]; omega)
      clear hin h0 hp hq
      go_enter Try.func31, Try.ntmps31
      go_wp2_with (first | (go_at_call 57; refine (l1In_any _ _ _ _).mono ?_; rintro e w' ⟨rfl, rfl⟩) | (at_builtin; refine wpList_app _ rfl (.tmp 19) (.tmp 25) 23 rfl (w.heap.size + 1) 5 i0 (.int .u8 0) 1 1 Try.underlying23 hi hz0 hz1 hz2 rfl (by decide) _ 0 [] rfl (by exact own_empty_at (by simp) (by simp)) B (q - p) _ (u8s ((l.drop p).take (q - p))) rfl (Sl.below HX.out (((Below.refl _ _).alloc hB _).alloc (by simp; omega) _)) (u8s_one _) (by omega) (by unfold maxLen; omega) (by simp) ?_; intro v1 w1 hown1 hg1 _; have hb1 := below_app_empty_at hg1 (by simp); rw [Nat.zero_add, List.nil_append] at hown1; clear hg1))
      go_ret
      exact ⟨v1, rfl, by rw [HL.out, HI.out]; exact own_base hown1 (by simp), below_step hb1 ((Below.refl _ _).alloc (Nat.le_refl _) _)⟩
    · have HI := Lib.hid (show idxL l x = [] by rw [idxL, if_neg (by omega)])
      have hb := inB_true hin.1 hin.2
      have hd : decide ((l.length : Int) < x.stop) = true := decide_eq_true (by omega)
      clear hin h0
      go_enter Try.func31, Try.ntmps31
      go_wp2_with (first | (go_at_call 57; refine (l1In_any _ _ _ _).mono ?_; rintro e w' ⟨rfl, rfl⟩))
      go_ret
      exact ⟨.slice (some ⟨w.heap.size + 1, 0, none⟩) 0 0, rfl, by rw [HI.out]; exact own_empty_at (by simp) (by simp), (by repeat (first | exact Below.refl _ _ | assumption | refine Below.alloc ?_ (by simp <;> omega) _ | refine Below.setCell ?_ (by simp <;> omega) _ | refine Below.drew ?_ | refine below_drewN ?_ _))⟩
  · have HI := Lib.hid (show idxL l x = [] by rw [idxL, if_neg (by omega)])
    have hb := inB_false (x := x.start) (a := 0) (b := x.stop) (by omega)
    clear hin h0
    go_enter Try.func31, Try.ntmps31
    go_wp2_with (first | (go_at_call 57; refine (l1In_any _ _ _ _).mono ?_; rintro e w' ⟨rfl, rfl⟩))
    go_ret
    exact ⟨.slice (some ⟨w.heap.size + 1, 0, none⟩) 0 0, rfl, by rw [HI.out]; exact own_empty_at (by simp) (by simp), (by repeat (first | exact Below.refl _ _ | assumption | refine Below.alloc ?_ (by simp <;> omega) _ | refine Below.setCell ?_ (by simp <;> omega) _ | refine Below.drew ?_ | refine below_drewN ?_ _))⟩

set_option maxHeartbeats 2000000 in
set_option maxRecDepth 100000 in
theorem implIndexBytes_any (v : Value) (l : List UInt8) (x : Ent) (B : Nat) (w : World) (h : SlB w B v l) (hB : B ≤ w.heap.size) (hl : l.length ≤ 1048576) (hx : x.ok) :
    Calls Try.prog 33 #[v, entV x] w (Fresh w 5 1 (idxL l x).length (u8s (idxL l x))) := by
  obtain ⟨i0, hi, hz0, hz1, hz2⟩ := info_parts Try.info_u8
  have h0 := h
  obtain ⟨A, c, rfl, hc, hm, hcell⟩ := h.open_
  obtain ⟨_, _, ⟨hs0, hs1⟩, ⟨he0, he1⟩⟩ := hx
  unfold maxLen at hm
  clear hcell h
  unfold entV
  by_cases c1 : x.start < 0
  · have HI := Lib.hid (show idxL l x = [] by rw [idxL, if_neg (by omega)])
    have d1 : decide (x.start < 0) = true := decide_eq_true c1
    clear c1 h0
    go_enter Try.func33, Try.ntmps33
    go_wp2
    go_ret
    exact ⟨.slice (some ⟨w.heap.size + 1, 0, none⟩) 0 0, rfl, by rw [HI.out]; exact own_empty_at (by simp) (by simp), (by repeat (first | exact Below.refl _ _ | assumption | refine Below.alloc ?_ (by simp <;> omega) _ | refine Below.setCell ?_ (by simp <;> omega) _ | refine Below.drew ?_ | refine below_drewN ?_ _))⟩
  have d1 : decide (x.start < 0) = false := decide_eq_false c1
  by_cases c2 : x.stop < x.start
  · have HI := Lib.hid (show idxL l x = [] by rw [idxL, if_neg (by omega)])
    have d2 : decide (x.stop < x.start) = true := decide_eq_true c2
    clear h0
    go_enter Try.func33, Try.ntmps33
    go_wp2
    go_ret
    exact ⟨.slice (some ⟨w.heap.size + 1, 0, none⟩) 0 0, rfl, by rw [HI.out]; exact own_empty_at (by simp) (by simp), (by repeat (first | exact Below.refl _ _ | assumption | refine Below.alloc ?_ (by simp <;> omega) _ | refine Below.setCell ?_ (by simp <;> omega) _ | refine Below.drew ?_ | refine below_drewN ?_ _))⟩
  have d2 : decide (x.stop < x.start) = false := decide_eq_false c2
  by_cases c3 : (l.length : Int) < x.stop
  · have HI := Lib.hid (show idxL l x = [] by rw [idxL, if_neg (by omega)])
    have d3 : decide ((l.length : Int) < x.stop) = true := decide_eq_true c3
    clear h0
    go_enter Try.func33, Try.ntmps33
    go_wp2
    go_ret
    exact ⟨.slice (some ⟨w.heap.size + 1, 0, none⟩) 0 0, rfl, by rw [HI.out]; exact own_empty_at (by simp) (by simp), (by repeat (first | exact Below.refl _ _ | assumption | refine Below.alloc ?_ (by simp <;> omega) _ | refine Below.setCell ?_ (by simp <;> omega) _ | refine Below.drew ?_ | refine below_drewN ?_ _))⟩
  have d3 : decide ((l.length : Int) < x.stop) = false := decide_eq_false c3
  obtain ⟨p, hp⟩ := Int.eq_ofNat_of_zero_le (show 0 ≤ x.start by omega)
  obtain ⟨q, hq⟩ := Int.eq_ofNat_of_zero_le (show 0 ≤ x.stop by omega)
  have HI := Lib.hid (show idxL l x = (l.drop p).take (q - p) by rw [idxL, if_pos ⟨by omega, by omega, by omega⟩, hp, hq]; rfl)
  have hpq : p ≤ q := by omega
  have hql : q ≤ l.length := by omega
  have hcv := run_cutLH (P := Try.prog) Try.underlying23 Try.sizeOf5 A l.length c x.start x.stop p q hp hq hpq (by omega)
  have HX := Lib.hid (SlB.cut h0 p q c hpq hql (by omega) (by unfold maxLen; omega))
  have HL := Lib.hid (show (idxL l x).length = q - p by rw [HI.out, List.length_take, List.length_drop]; omega)
  clear h0 hp hq
  go_enter Try.func33, Try.ntmps33
  go_wp2_with (at_builtin; refine wpList_app _ rfl (.tmp 23) (.tmp 29) 23 rfl (w.heap.size + 1) 5 i0 (.int .u8 0) 1 1 Try.underlying23 hi hz0 hz1 hz2 rfl (by decide) _ 0 [] rfl (by exact own_empty_at (by simp) (by simp)) B (q - p) _ (u8s ((l.drop p).take (q - p))) rfl (Sl.below HX.out (((Below.refl _ _).alloc hB _).alloc (by simp; omega) _)) (u8s_one _) (by omega) (by unfold maxLen; omega) (by simp) ?_; intro v1 w1 hown1 hg1 _; have hb1 := below_app_empty_at hg1 (by simp); rw [Nat.zero_add, List.nil_append] at hown1; clear hg1)
  go_ret
  exact ⟨v1, rfl, by rw [HL.out, HI.out]; exact own_base hown1 (by simp), below_step hb1 ((Below.refl _ _).alloc (Nat.le_refl _) _)⟩
end Go.Proofs.Ytilhdoedeiiilaa
namespace Go.Proofs.Ytilhdoedeiiilaa
open Go.RowKit
/-- Two rows made one after the other lie in different blocks. -/
theorem far_of {u v : Value} {a b : Nat} (L : ∀ k, u.ownBlock = some k → k < a) (G : ∀ k, v.ownBlock = some k → b ≤ k) (h : a ≤ b) : v.ownBlock = none ∨ v.ownBlock ≠ u.ownBlock := by
  cases hv : v.ownBlock with
  | none => exact .inl rfl
  | some k =>
    refine .inr fun e => ?_
    have h1 := L k e.symm
    have h2 := G k hv
    omega
theorem far_of' {u v : Value} {a b : Nat} (L : ∀ k, v.ownBlock = some k → k < a) (G : ∀ k, u.ownBlock = some k → b ≤ k) (h : a ≤ b) : v.ownBlock = none ∨ v.ownBlock ≠ u.ownBlock := by
  cases hv : v.ownBlock with
  | none => exact .inl rfl
  | some k =>
    refine .inr fun e => ?_
    have h1 := L k hv
    have h2 := G k e.symm
    omega
theorem below_mark {a w w1 : World} {B : Nat} {v : Value} (hg : w.grownBy w1 v.ownBlock) (G : ∀ k, v.ownBlock = some k → B ≤ k) (hB : B ≤ w.heap.size) (hb : Below B a w) : Below B a w1 := hb.grown hg hB G
end Go.Proofs.Ytilhdoedeiiilaa
namespace Go.Proofs.Ytilhdoedeiiilaa
open Go.RowKit
theorem mark1_any (v : Value) (n : Nat) (xs : List Value) (base : Nat) (w : World) (h : w.ownsRow base 5 1 v n xs) (hk : n ≤ 1048576) :
    Calls Try.prog 34 #[v, .int .i64 1] w (Marked w base 5 1 v n (u8s (marks 1 n)) (1 + n)) := markByteS_any v n xs 1 base w h (by omega)
theorem held1_any (v : Value) (n : Nat) (B : Nat) (w : World) (h : SlB w B v (marks 1 n)) (hk : n ≤ 1048576) :
    Calls Try.prog 35 #[v, .int .i64 1] w fun e w' => e = .returned (.int .i64 (1 + (n : Int))) ∧ w = w' := heldByteS_any v n 1 B w h (by omega)
theorem own_marks {w : World} {base n : Nat} {v : Value} (h : w.ownsRow base 5 1 v n (u8s (marks 1 n))) : SlB w w.heap.size v (marks 1 n) := by
  have := Sl.of_own h
  unfold SlB
  rw [marks_length]
  exact this
end Go.Proofs.Ytilhdoedeiiilaa
namespace Go.Proofs.Ytilhdoedeiiilaa.FnExactIndexBytes
open Go.RowKit
set_option maxHeartbeats 2000000 in
theorem walk (v : Value) (l : List UInt8) (x : Ent) (w : World) (h : SlB w w.heap.size v l) (hx : x.ok) :
    Calls Try.prog 8 #[v, entV x] w fun e w' => e = .returned (.bool true) ∧ Below w.heap.size w w' := by
  have h' := h
  obtain ⟨A, c, rfl, hc, hm, _⟩ := h'.open_
  unfold maxLen at hm
  by_cases hbig : 1048576 < (l.length : Int)
  · clear h h'
    unfold entV
    go_enter Try.func8, Try.ntmps8
    go_wp2
    go_ret
    exact ⟨rfl, (by repeat (first | exact Below.refl _ _ | assumption | refine Below.alloc ?_ (by simp <;> omega) _ | refine Below.setCell ?_ (by simp <;> omega) _ | refine Below.drew ?_ | refine below_drewN ?_ _))⟩
  have hl : l.length ≤ 1048576 := by omega
  have hxs := hx.1
  by_cases hsz : (1048576 : Int) - x.path.size < 0
  · clear h h'
    unfold entV
    go_enter Try.func8, Try.ntmps8
    go_wp2_with fail
    refine (szEntry_any x _ _ hxs (by omega) (by omega)).mono ?_
    rw [if_pos hsz]
    rintro e w1 ⟨rfl, b1⟩
    have HB := Lib.hid (below_step b1 ((Below.refl w.heap.size w).alloc (Nat.le_refl _) _))
    clear b1
    go_wp2
    go_ret
    exact ⟨rfl, HB.out⟩
  unfold entV
  have hps : (x.path.size : Int) ≤ 1048576 := by omega
  have HSZ := Lib.hid hsz
  clear hsz
  go_enter Try.func8, Try.ntmps8
  go_wp2_with fail
  refine (szEntry_any x _ _ hxs (by omega) (by omega)).mono ?_
  rw [if_neg (by have := HSZ.out; omega)]
  rintro e w1 ⟨rfl, bel1⟩
  have b0 : Below w.heap.size w (w.alloc (.cells #[.string x.path, .int .i64 x.rule, .int .i64 x.start, .int .i64 x.stop] 39)) := (Below.refl _ _).alloc (Nat.le_refl _) _
  have b1 := below_step bel1 b0
  have c0 : w1.cell? ⟨w.heap.size, 0, none⟩ = some (.string x.path) := cell_later bel1 (by simp [go_sem])
  have c1 : w1.cell? ⟨w.heap.size, 1, none⟩ = some (.int .i64 x.rule) := cell_later bel1 (by simp [go_sem])
  have c2 : w1.cell? ⟨w.heap.size, 2, none⟩ = some (.int .i64 x.start) := cell_later bel1 (by simp [go_sem])
  have c3 : w1.cell? ⟨w.heap.size, 3, none⟩ = some (.int .i64 x.stop) := cell_later bel1 (by simp [go_sem])
  clear bel1 b0
  go_wp2_with fail
  go_region_held3 (fun w' => w'.cell? ⟨w.heap.size, 0, none⟩ = some (.string x.path) ∧ w'.cell? ⟨w.heap.size, 1, none⟩ = some (.int .i64 x.rule) ∧ w'.cell? ⟨w.heap.size, 2, none⟩ = some (.int .i64 x.start) ∧ w'.cell? ⟨w.heap.size, 3, none⟩ = some (.int .i64 x.stop))
    (first | exact ⟨c0, c1, c2, c3⟩ | exact ⟨cell_later bel4 (cell_later bel3 (cell_later bel2 c0)), cell_later bel4 (cell_later bel3 (cell_later bel2 c1)), cell_later bel4 (cell_later bel3 (cell_later bel2 c2)), cell_later bel4 (cell_later bel3 (cell_later bel2 c3))⟩ | exact ⟨cell_later bel3 (cell_later bel2 c0), cell_later bel3 (cell_later bel2 c1), cell_later bel3 (cell_later bel2 c2), cell_later bel3 (cell_later bel2 c3)⟩ | exact ⟨cell_later bel2 c0, cell_later bel2 c1, cell_later bel2 c2, cell_later bel2 c3⟩)
    (first
      | (go_at_call 18; refine (toByteS_any _ l _ _ (h.below b1.drew) b1.size (by omega)).mono ?_; rintro e w2 ⟨v2, rfl, own2, bel2⟩)
      | (go_at_call 32; refine (toEntry_any x _).mono ?_; rintro e w3 ⟨rfl, bel3⟩)
      | (go_at_call 31; refine (specIndexBytes_any v2 l x _ _ (own_u8 (own_below own2 bel3 (Nat.le_refl _))) (Nat.le_refl _) hl hx).mono ?_; rintro e w4 ⟨v4, rfl, own4, bel4⟩))
  have b4 := below_step bel4 (below_step bel3 (below_step bel2 b1.drew))
  have d0 := cell_later bel4 (cell_later bel3 (cell_later bel2 c0))
  have d1 := cell_later bel4 (cell_later bel3 (cell_later bel2 c1))
  have d2 := cell_later bel4 (cell_later bel3 (cell_later bel2 c2))
  have d3 := cell_later bel4 (cell_later bel3 (cell_later bel2 c3))
  have G4 : ∀ k, v4.ownBlock = some k → w.heap.size ≤ k := fun k hk => by have := (own4.lt k hk).1; have := bel3.size; have := bel2.size; have := b1.size; have e : w1.drew.heap.size = w1.heap.size := rfl; omega
  have L4 : ∀ k, v4.ownBlock = some k → k < w4.heap.size := fun k hk => (own4.lt k hk).2
  have hbx : w.heap.size < w4.heap.size := World.block_lt_of_cell? w4 _ d0
  clear c0 c1 c2 c3 bel2 bel3 bel4 own2 b1
  go_wp2_with fail
  refine (toByteS_any _ l _ _ (h.below b4) b4.size (by omega)).mono ?_
  rintro e w5 ⟨v5, rfl, own5, bel5⟩
  have b5 := below_step bel5 b4
  have G5 : ∀ k, v5.ownBlock = some k → w4.heap.size ≤ k := fun k hk => (own5.lt k hk).1
  have L5 : ∀ k, v5.ownBlock = some k → k < w5.heap.size := fun k hk => (own5.lt k hk).2
  have own4 := own_below own4 bel5 (Nat.le_refl _)
  have s45 := bel5.size
  have e0 := cell_later bel5 d0
  have e1 := cell_later bel5 d1
  have e2 := cell_later bel5 d2
  have e3 := cell_later bel5 d3
  clear d0 d1 d2 d3 bel5
  go_wp2_with fail
  refine (toEntry_any x _).mono ?_
  rintro e w6 ⟨rfl, bel6⟩
  have b6 := below_step bel6 b5
  have own4 := own_below own4 bel6 (Nat.le_refl _)
  have own5 := own_below own5 bel6 (Nat.le_refl _)
  have s56 := bel6.size
  have d0 := cell_later bel6 e0
  have d1 := cell_later bel6 e1
  have d2 := cell_later bel6 e2
  have d3 := cell_later bel6 e3
  clear e0 e1 e2 e3 bel6
  go_wp2_with fail
  refine (implIndexBytes_any v5 l x _ _ (own_u8 own5) (Nat.le_refl _) hl hx).mono ?_
  rintro e w7 ⟨v7, rfl, own7, bel7⟩
  have b7 := below_step bel7 b6
  have G7 : ∀ k, v7.ownBlock = some k → w6.heap.size ≤ k := fun k hk => (own7.lt k hk).1
  have own4 := own_below own4 bel7 (Nat.le_refl _)
  have own5 := own_below own5 bel7 (Nat.le_refl _)
  have s67 := bel7.size
  have e0 := cell_later bel7 d0
  have e1 := cell_later bel7 d1
  have e2 := cell_later bel7 d2
  have e3 := cell_later bel7 d3
  clear d0 d1 d2 d3 bel7
  go_wp2_with fail
  refine (eqByteS_any v7 v4 (idxL l x) (idxL l x) _ _ _ (own_u8 own7) (own_u8 own4)).mono ?_
  rintro e w8 ⟨rfl, n8, rfl⟩
  rw [beq_self_eq_true]
  go_wp2_with fail
  have b8 : Below w.heap.size w (w7.drewN n8) := below_drewN b7 n8
  have own4 : (w7.drewN n8).ownsRow _ _ _ v4 _ _ := own4
  have own5 : (w7.drewN n8).ownsRow _ _ _ v5 _ _ := own5
  have own7 : (w7.drewN n8).ownsRow _ _ _ v7 _ _ := own7
  refine (toByteS_any _ l _ _ (h.below b8) b8.size (by omega)).mono ?_
  rintro e w9 ⟨v9, rfl, own9, bel9⟩
  have b9 := below_step bel9 b8
  have own4 := own_below own4 bel9 (Nat.le_refl _)
  have own5 := own_below own5 bel9 (Nat.le_refl _)
  have own7 := own_below own7 bel9 (Nat.le_refl _)
  have d0 : w9.cell? ⟨w.heap.size, 0, none⟩ = some (.string x.path) := cell_later bel9 e0
  have d1 : w9.cell? ⟨w.heap.size, 1, none⟩ = some (.int .i64 x.rule) := cell_later bel9 e1
  have d2 : w9.cell? ⟨w.heap.size, 2, none⟩ = some (.int .i64 x.start) := cell_later bel9 e2
  have d3 : w9.cell? ⟨w.heap.size, 3, none⟩ = some (.int .i64 x.stop) := cell_later bel9 e3
  clear e0 e1 e2 e3 bel9 b8 b7 b6 b5
  go_wp2_with fail
  refine (eqByteS_any v5 v9 l l _ _ _ (own_u8 own5) (own_u8 own9)).mono ?_
  rintro e w10 ⟨rfl, n10, rfl⟩
  rw [beq_self_eq_true]
  have b10 : Below w.heap.size w (w9.drewN n10) := below_drewN b9 n10
  have own4 : (w9.drewN n10).ownsRow _ _ _ v4 _ _ := own4
  have own5 : (w9.drewN n10).ownsRow _ _ _ v5 _ _ := own5
  have own7 : (w9.drewN n10).ownsRow _ _ _ v7 _ _ := own7
  clear b9 own9
  go_wp2_with fail
  refine (mark1_any v5 l.length (u8s l) _ _ own5 hl).mono ?_
  rintro e w11 ⟨rfl, own5, hg⟩
  have b11 := below_mark hg (fun k hk => by have := G5 k hk; omega) b10.size b10
  have own4 := own4.kept hg (far_of' L4 G5 (Nat.le_refl _))
  have own7 := own7.kept hg (far_of L5 G7 s56)
  have hne : some w.heap.size ≠ v5.ownBlock := fun e => by have := G5 _ e.symm; omega
  have e0 : w11.cell? ⟨w.heap.size, 0, none⟩ = some (.string x.path) := hg.cell (a := ⟨w.heap.size, 0, none⟩) d0 hne
  have e1 : w11.cell? ⟨w.heap.size, 1, none⟩ = some (.int .i64 x.rule) := hg.cell (a := ⟨w.heap.size, 1, none⟩) d1 hne
  have e2 : w11.cell? ⟨w.heap.size, 2, none⟩ = some (.int .i64 x.start) := hg.cell (a := ⟨w.heap.size, 2, none⟩) d2 hne
  have e3 : w11.cell? ⟨w.heap.size, 3, none⟩ = some (.int .i64 x.stop) := hg.cell (a := ⟨w.heap.size, 3, none⟩) d3 hne
  have hnn : decide ((1 : Int) + l.length < 0) = false := decide_eq_false (by omega)
  clear d0 d1 d2 d3 hg hne b10 own5
  go_wp2_with fail
  refine (eqByteS_any v7 v4 (idxL l x) (idxL l x) _ _ _ (own_u8 own7) (own_u8 own4)).mono ?_
  rintro e w12 ⟨rfl, n12, rfl⟩
  rw [beq_self_eq_true]
  have b12 : Below w.heap.size w (w11.drewN n12) := below_drewN b11 n12
  have own4 : (w11.drewN n12).ownsRow _ _ _ v4 _ _ := own4
  have own7 : (w11.drewN n12).ownsRow _ _ _ v7 _ _ := own7
  have hil : (idxL l x).length ≤ 1048576 := by
    unfold idxL
    split
    · rw [List.length_take, List.length_drop]; omega
    · simp
  clear b11
  go_wp2_with fail
  refine (mark1_any v7 _ _ _ _ own7 hil).mono ?_
  rintro e w13 ⟨rfl, own7, hg⟩
  have b13 := below_mark hg (fun k hk => by have := G7 k hk; omega) b12.size b12
  have own4 := own4.kept hg (far_of' L4 G7 (by omega))
  have hne : some w.heap.size ≠ v7.ownBlock := fun e => by have := G7 _ e.symm; omega
  have d0 : w13.cell? ⟨w.heap.size, 0, none⟩ = some (.string x.path) := hg.cell (a := ⟨w.heap.size, 0, none⟩) e0 hne
  have d1 : w13.cell? ⟨w.heap.size, 1, none⟩ = some (.int .i64 x.rule) := hg.cell (a := ⟨w.heap.size, 1, none⟩) e1 hne
  have d2 : w13.cell? ⟨w.heap.size, 2, none⟩ = some (.int .i64 x.start) := hg.cell (a := ⟨w.heap.size, 2, none⟩) e2 hne
  have d3 : w13.cell? ⟨w.heap.size, 3, none⟩ = some (.int .i64 x.stop) := hg.cell (a := ⟨w.heap.size, 3, none⟩) e3 hne
  clear e0 e1 e2 e3 hg hne b12
  go_wp2_with fail
  refine (held1_any v7 _ _ _ (own_marks own7) hil).mono ?_
  rintro e w14 ⟨rfl, rfl⟩
  have hq : ((1 : Int) + ((idxL l x).length : Int) == 1 + ((idxL l x).length : Int)) = true := by simp
  go_wp2_with fail
  go_region_held3 (fun w' => w'.cell? ⟨w.heap.size, 0, none⟩ = some (.string x.path) ∧ w'.cell? ⟨w.heap.size, 1, none⟩ = some (.int .i64 x.rule) ∧ w'.cell? ⟨w.heap.size, 2, none⟩ = some (.int .i64 x.start) ∧ w'.cell? ⟨w.heap.size, 3, none⟩ = some (.int .i64 x.stop))
    (first | exact ⟨d0, d1, d2, d3⟩ | exact ⟨cell_later bel17 (cell_later bel16 (cell_later bel15 d0)), cell_later bel17 (cell_later bel16 (cell_later bel15 d1)), cell_later bel17 (cell_later bel16 (cell_later bel15 d2)), cell_later bel17 (cell_later bel16 (cell_later bel15 d3))⟩ | exact ⟨cell_later bel16 (cell_later bel15 d0), cell_later bel16 (cell_later bel15 d1), cell_later bel16 (cell_later bel15 d2), cell_later bel16 (cell_later bel15 d3)⟩ | exact ⟨cell_later bel15 d0, cell_later bel15 d1, cell_later bel15 d2, cell_later bel15 d3⟩)
    (first
      | (go_at_call 18; refine (toByteS_any _ l _ _ (h.below b13.drew) b13.size (by omega)).mono ?_; rintro e w15 ⟨v15, rfl, own15, bel15⟩)
      | (go_at_call 32; refine (toEntry_any x _).mono ?_; rintro e w16 ⟨rfl, bel16⟩)
      | (go_at_call 33; refine (implIndexBytes_any v15 l x _ _ (own_u8 (own_below own15 bel16 (Nat.le_refl _))) (Nat.le_refl _) hl hx).mono ?_; rintro e w17 ⟨v17, rfl, own17, bel17⟩))
  have b17 := below_step bel17 (below_step bel16 (below_step bel15 b13.drew))
  have own4 : w13.drew.ownsRow _ _ _ v4 _ _ := own4
  have own7 : w13.drew.ownsRow _ _ _ v7 _ _ := own7
  have own4 := own_below (own_below (own_below own4 bel15 (Nat.le_refl _)) bel16 (Nat.le_refl _)) bel17 (Nat.le_refl _)
  have own7 := own_below (own_below (own_below own7 bel15 (Nat.le_refl _)) bel16 (Nat.le_refl _)) bel17 (Nat.le_refl _)
  clear d0 d1 d2 d3 bel15 bel16 bel17 own15 b13
  go_wp2_with fail
  refine (eqByteS_any v17 v4 (idxL l x) (idxL l x) _ _ _ (own_u8 own17) (own_u8 own4)).mono ?_
  rintro e w18 ⟨rfl, n18, rfl⟩
  rw [beq_self_eq_true]
  have b18 : Below w.heap.size w (w17.drewN n18) := below_drewN b17 n18
  have own7 : (w17.drewN n18).ownsRow _ _ _ v7 _ _ := own7
  clear own17 own4 b17
  go_wp2_with fail
  refine (held1_any v7 _ _ _ (own_marks own7) hil).mono ?_
  rintro e w19 ⟨rfl, rfl⟩
  have HB := Lib.hid b18
  clear own7 b18 h h'
  go_wp2
  go_ret
  exact ⟨rfl, HB.out⟩
end Go.Proofs.Ytilhdoedeiiilaa.FnExactIndexBytes
