/- The walk of the law FnExactInvertMutation. No condition but those of its arguments. -/
import Derived.Test.YtacehndbkimggaaInvert
import Derived.Test.YtacehndbkimggaaOwnB
import Derived.Test.YtacehndbkimggaaMut
import Derived.WalkSpells
import Derived.WalkLawsBesides
import Derived.Deep.RegionHeld3
import Derived.Deep.DeepCutAuto
namespace Go.Proofs.Ytacehndbkimggaa
open Go.RowKit
theorem specInvert_law {w : World} {v : Value} {l : List UInt8} {lo hi : Nat} {m : Muta} (h : OwB l lo hi w v) (hl : l.length ≤ 1048576) (hm : m.ok) :
    Calls Try.prog 17 #[v, mutV m] w fun e w' => e = .returned (.tuple #[.agg #[.int .i64 (invM l m).kind, .int .i64 (invM l m).pos, .int .i64 (invM l m).byte], .bool (mutOk l m)]) ∧ Below w.heap.size w w' :=
  specInvert_any v l m _ w h.sl (Nat.le_refl _) hl hm
theorem implInvert_law {w : World} {v : Value} {l : List UInt8} {lo hi : Nat} {m : Muta} (h : OwB l lo hi w v) (hl : l.length ≤ 1048576) (hm : m.ok) :
    Calls Try.prog 18 #[v, mutV m] w fun e w' => e = .returned (.tuple #[.agg #[.int .i64 (invM l m).kind, .int .i64 (invM l m).pos, .int .i64 (invM l m).byte], .bool (mutOk l m)]) ∧ Below w.heap.size w w' :=
  implInvert_any v l m _ w h.sl (Nat.le_refl _) hl hm
end Go.Proofs.Ytacehndbkimggaa
namespace Go.Proofs.Ytacehndbkimggaa.FnExactInvertMutation
open Go.RowKit
set_option maxHeartbeats 2000000 in
set_option maxRecDepth 100000 in
theorem walk (v0 : Value) (l0 : List UInt8) (e1 : Muta) (w : World) (hA0 : SlB w w.heap.size v0 l0) (hA1 : e1.ok) :
    Calls Try.prog 4 #[v0, .agg #[.int .i64 e1.kind, .int .i64 e1.pos, .int .i64 e1.byte]] w fun e w' => e = .returned (.bool true) ∧ Below w.heap.size w w' := by
  have hA0' := hA0.len
  obtain ⟨A0, cc0, rfl⟩ : ∃ A c, v0 = .slice A l0.length c := by obtain ⟨A, c, h, _⟩ := hA0.open_; exact ⟨A, c, h⟩
  by_cases big0 : 1048576 < (l0.length : Int)
  · clear hA0 hA1
    go_enter Try.func4, Try.ntmps4
    go_wp2
    go_ret
    exact ⟨rfl, (by repeat (first | exact Below.refl _ _ | assumption | refine Below.alloc ?_ (by first | omega | (simp <;> omega)) _ | refine Below.setCell ?_ (by first | omega | (simp <;> omega)) _ | refine Below.drew ?_ | refine below_drewN ?_ _))⟩
  have hl0 : l0.length ≤ 1048576 := by omega
  clear big0
  go_enter Try.func4, Try.ntmps4
  have bx1 : Below w.heap.size w (w.alloc (.cells #[.int .i64 e1.kind, .int .i64 e1.pos, .int .i64 e1.byte] 24)) := (Below.refl w.heap.size w).alloc (Below.refl w.heap.size w).size _
  have bz1 : w.heap.size + 1 ≤ (w.alloc (.cells #[.int .i64 e1.kind, .int .i64 e1.pos, .int .i64 e1.byte] 24)).heap.size := by simp
  have by1 : (w.alloc (.cells #[.int .i64 e1.kind, .int .i64 e1.pos, .int .i64 e1.byte] 24)).heap.size ≤ w.heap.size + 1 := by simp
  have bw1 : w.heap.size ≤ w.heap.size := (Below.refl w.heap.size w).size
  have c_aM_0 : (w.alloc (.cells #[.int .i64 e1.kind, .int .i64 e1.pos, .int .i64 e1.byte] 24)).cell? ⟨w.heap.size, 0, none⟩ = some (.int .i64 e1.kind) := by simp [go_sem]
  have c_aM_1 : (w.alloc (.cells #[.int .i64 e1.kind, .int .i64 e1.pos, .int .i64 e1.byte] 24)).cell? ⟨w.heap.size, 1, none⟩ = some (.int .i64 e1.pos) := by simp [go_sem]
  have c_aM_2 : (w.alloc (.cells #[.int .i64 e1.kind, .int .i64 e1.pos, .int .i64 e1.byte] 24)).cell? ⟨w.heap.size, 2, none⟩ = some (.int .i64 e1.byte) := by simp [go_sem]
  go_upto_region 3 with fail
  go_cut [5, 6] (fun s5 s6 wx => (∃ bq_w0 : Nat, s5 = .pointer (some ⟨bq_w0, 0, none⟩) ∧ wx.cell? ⟨bq_w0, 0, none⟩ = some (.int .i64 (invM l0 e1).kind) ∧ wx.cell? ⟨bq_w0, 1, none⟩ = some (.int .i64 (invM l0 e1).pos) ∧ wx.cell? ⟨bq_w0, 2, none⟩ = some (.int .i64 (invM l0 e1).byte) ∧ (w.alloc (.cells #[.int .i64 e1.kind, .int .i64 e1.pos, .int .i64 e1.byte] 24)).heap.size ≤ bq_w0 ∧ bq_w0 < wx.heap.size) ∧ s6 = .bool (mutOk l0 e1) ∧ wx.cell? ⟨w.heap.size, 0, none⟩ = some (.int .i64 e1.kind) ∧ wx.cell? ⟨w.heap.size, 1, none⟩ = some (.int .i64 e1.pos) ∧ wx.cell? ⟨w.heap.size, 2, none⟩ = some (.int .i64 e1.byte) ∧ Below w.heap.size w wx ∧ (w.alloc (.cells #[.int .i64 e1.kind, .int .i64 e1.pos, .int .i64 e1.byte] 24)).heap.size ≤ wx.heap.size)
  case first =>
    have p1 : w.heap.size ≤ (w.alloc (.cells #[.int .i64 e1.kind, .int .i64 e1.pos, .int .i64 e1.byte] 24)).heap.size := bx1.size
    go_region_held3 (fun w9 => w9.cell? ⟨w.heap.size, 0, none⟩ = some (.int .i64 e1.kind) ∧ w9.cell? ⟨w.heap.size, 1, none⟩ = some (.int .i64 e1.pos) ∧ w9.cell? ⟨w.heap.size, 2, none⟩ = some (.int .i64 e1.byte))
      (first | exact ⟨c_aM_0, c_aM_1, c_aM_2⟩ | exact ⟨cell_keep (B := w.heap.size + 1) c_aM_0 (by repeat (first | exact Below.refl _ _ | assumption | refine Below.alloc ?_ (by first | omega | (simp <;> omega)) _ | refine Below.setCell ?_ (by first | omega | (simp <;> omega)) _ | refine Below.drew ?_ | refine below_drewN ?_ _)) (Nat.lt_succ_self _), cell_keep (B := w.heap.size + 1) c_aM_1 (by repeat (first | exact Below.refl _ _ | assumption | refine Below.alloc ?_ (by first | omega | (simp <;> omega)) _ | refine Below.setCell ?_ (by first | omega | (simp <;> omega)) _ | refine Below.drew ?_ | refine below_drewN ?_ _)) (Nat.lt_succ_self _), cell_keep (B := w.heap.size + 1) c_aM_2 (by repeat (first | exact Below.refl _ _ | assumption | refine Below.alloc ?_ (by first | omega | (simp <;> omega)) _ | refine Below.setCell ?_ (by first | omega | (simp <;> omega)) _ | refine Below.drew ?_ | refine below_drewN ?_ _)) (Nat.lt_succ_self _)⟩)
      (first
        | (go_at_call 11; refine (toB_law hA0 (by first | exact bx1 | exact Below.drew bx1 | exact Below.alloc bx1 (Below.size bx1) _ | exact Below.alloc (Below.drew bx1) (Below.size bx1) _ | exact Below.drew (Below.alloc bx1 (Below.size bx1) _)) (by omega)).mono ?_; rintro e W1 ⟨t0, rfl, own_t0, rbel1⟩; have bel1 : Below (w.alloc (.cells #[.int .i64 e1.kind, .int .i64 e1.pos, .int .i64 e1.byte] 24)).heap.size (w.alloc (.cells #[.int .i64 e1.kind, .int .i64 e1.pos, .int .i64 e1.byte] 24)) W1 := (by first | exact rbel1 | exact below_of_alloc rbel1 | exact below_of_drew rbel1 | exact below_of_drew (below_of_alloc rbel1) | exact below_of_alloc (below_of_drew rbel1)); have b1 := below_step bel1 bx1; have s1 := bel1.size; have c_aM_0 : W1.cell? ⟨w.heap.size, 0, none⟩ = some (.int .i64 e1.kind) := cell_later bel1 c_aM_0; have c_aM_1 : W1.cell? ⟨w.heap.size, 1, none⟩ = some (.int .i64 e1.pos) := cell_later bel1 c_aM_1; have c_aM_2 : W1.cell? ⟨w.heap.size, 2, none⟩ = some (.int .i64 e1.byte) := cell_later bel1 c_aM_2; (first | (have zz0 := cell_later bel1 zz0; have zf0 := frozen_later bel1 zy0 zf0; have zy0 := zz0; have zz1 := cell_later bel1 zz1; have zf1 := frozen_later bel1 zy1 zf1; have zy1 := zz1; have zz2 := cell_later bel1 zz2; have zf2 := frozen_later bel1 zy2 zf2; have zy2 := zz2) | (have zz0 := alloc_cell (w := (w.alloc (.cells #[.int .i64 e1.kind, .int .i64 e1.pos, .int .i64 e1.byte] 24))) rbel1 (j := 0) rfl; have zf0 := alloc_frozen (w := (w.alloc (.cells #[.int .i64 e1.kind, .int .i64 e1.pos, .int .i64 e1.byte] 24))) rbel1 (j := 0) rfl; have zz1 := alloc_cell (w := (w.alloc (.cells #[.int .i64 e1.kind, .int .i64 e1.pos, .int .i64 e1.byte] 24))) rbel1 (j := 1) rfl; have zf1 := alloc_frozen (w := (w.alloc (.cells #[.int .i64 e1.kind, .int .i64 e1.pos, .int .i64 e1.byte] 24))) rbel1 (j := 1) rfl; have zz2 := alloc_cell (w := (w.alloc (.cells #[.int .i64 e1.kind, .int .i64 e1.pos, .int .i64 e1.byte] 24))) rbel1 (j := 2) rfl; have zf2 := alloc_frozen (w := (w.alloc (.cells #[.int .i64 e1.kind, .int .i64 e1.pos, .int .i64 e1.byte] 24))) rbel1 (j := 2) rfl; (try simp only [alloc_size] at zz0 zf0 zz1 zf1 zz2 zf2); have zy0 := zz0; have zy1 := zz1; have zy2 := zz2; have zs := Below.size rbel1; simp only [alloc_size] at zs) | (have zz0 := alloc_cell (w := (w.alloc (.cells #[.int .i64 e1.kind, .int .i64 e1.pos, .int .i64 e1.byte] 24))) (below_of_drew rbel1) (j := 0) rfl; have zf0 := alloc_frozen (w := (w.alloc (.cells #[.int .i64 e1.kind, .int .i64 e1.pos, .int .i64 e1.byte] 24))) (below_of_drew rbel1) (j := 0) rfl; have zz1 := alloc_cell (w := (w.alloc (.cells #[.int .i64 e1.kind, .int .i64 e1.pos, .int .i64 e1.byte] 24))) (below_of_drew rbel1) (j := 1) rfl; have zf1 := alloc_frozen (w := (w.alloc (.cells #[.int .i64 e1.kind, .int .i64 e1.pos, .int .i64 e1.byte] 24))) (below_of_drew rbel1) (j := 1) rfl; have zz2 := alloc_cell (w := (w.alloc (.cells #[.int .i64 e1.kind, .int .i64 e1.pos, .int .i64 e1.byte] 24))) (below_of_drew rbel1) (j := 2) rfl; have zf2 := alloc_frozen (w := (w.alloc (.cells #[.int .i64 e1.kind, .int .i64 e1.pos, .int .i64 e1.byte] 24))) (below_of_drew rbel1) (j := 2) rfl; (try simp only [alloc_size] at zz0 zf0 zz1 zf1 zz2 zf2); have zy0 := zz0; have zy1 := zz1; have zy2 := zz2; have zs := Below.size (below_of_drew rbel1); simp only [alloc_size] at zs) | skip))
        | (go_at_call 12; refine (toMutation_any e1 _).mono ?_; rintro e W2 ⟨rfl, rbel2⟩; have bel2 : Below W1.heap.size W1 W2 := (by first | exact rbel2 | exact below_of_alloc rbel2 | exact below_of_drew rbel2 | exact below_of_drew (below_of_alloc rbel2) | exact below_of_alloc (below_of_drew rbel2)); have b2 := below_step bel2 b1; have s2 := bel2.size; have own_t0 := own_t0.keep (Out.of_below bel2 W1.heap.size W1.heap.size) (by omega); have c_aM_0 : W2.cell? ⟨w.heap.size, 0, none⟩ = some (.int .i64 e1.kind) := cell_later bel2 c_aM_0; have c_aM_1 : W2.cell? ⟨w.heap.size, 1, none⟩ = some (.int .i64 e1.pos) := cell_later bel2 c_aM_1; have c_aM_2 : W2.cell? ⟨w.heap.size, 2, none⟩ = some (.int .i64 e1.byte) := cell_later bel2 c_aM_2; (first | (have zz0 := cell_later bel2 zz0; have zf0 := frozen_later bel2 zy0 zf0; have zy0 := zz0; have zz1 := cell_later bel2 zz1; have zf1 := frozen_later bel2 zy1 zf1; have zy1 := zz1; have zz2 := cell_later bel2 zz2; have zf2 := frozen_later bel2 zy2 zf2; have zy2 := zz2) | (have zz0 := alloc_cell (w := W1) rbel2 (j := 0) rfl; have zf0 := alloc_frozen (w := W1) rbel2 (j := 0) rfl; have zz1 := alloc_cell (w := W1) rbel2 (j := 1) rfl; have zf1 := alloc_frozen (w := W1) rbel2 (j := 1) rfl; have zz2 := alloc_cell (w := W1) rbel2 (j := 2) rfl; have zf2 := alloc_frozen (w := W1) rbel2 (j := 2) rfl; (try simp only [alloc_size] at zz0 zf0 zz1 zf1 zz2 zf2); have zy0 := zz0; have zy1 := zz1; have zy2 := zz2; have zs := Below.size rbel2; simp only [alloc_size] at zs) | (have zz0 := alloc_cell (w := W1) (below_of_drew rbel2) (j := 0) rfl; have zf0 := alloc_frozen (w := W1) (below_of_drew rbel2) (j := 0) rfl; have zz1 := alloc_cell (w := W1) (below_of_drew rbel2) (j := 1) rfl; have zf1 := alloc_frozen (w := W1) (below_of_drew rbel2) (j := 1) rfl; have zz2 := alloc_cell (w := W1) (below_of_drew rbel2) (j := 2) rfl; have zf2 := alloc_frozen (w := W1) (below_of_drew rbel2) (j := 2) rfl; (try simp only [alloc_size] at zz0 zf0 zz1 zf1 zz2 zf2); have zy0 := zz0; have zy1 := zz1; have zy2 := zz2; have zs := Below.size (below_of_drew rbel2); simp only [alloc_size] at zs) | skip))
        | (go_at_call 17; refine (specInvert_law (own_t0.keep (Out.of_below (by first | exact Below.refl _ _ | exact (Below.refl _ _).drew | exact below_alloc1 _ _ | exact (Below.refl _ _).drew.alloc (Nat.le_refl _) _ | exact (below_alloc1 _ _).drew) 0 0) (by omega)) hl0 hA1).mono ?_; rintro e W3 ⟨rfl, rbel3⟩; have bel3 : Below W2.heap.size W2 W3 := (by first | exact rbel3 | exact below_of_alloc rbel3 | exact below_of_drew rbel3 | exact below_of_drew (below_of_alloc rbel3) | exact below_of_alloc (below_of_drew rbel3)); have b3 := below_step bel3 b2; have s3 := bel3.size; have own_t0 := own_t0.keep (Out.of_below bel3 W2.heap.size W2.heap.size) (by omega); have c_aM_0 : W3.cell? ⟨w.heap.size, 0, none⟩ = some (.int .i64 e1.kind) := cell_later bel3 c_aM_0; have c_aM_1 : W3.cell? ⟨w.heap.size, 1, none⟩ = some (.int .i64 e1.pos) := cell_later bel3 c_aM_1; have c_aM_2 : W3.cell? ⟨w.heap.size, 2, none⟩ = some (.int .i64 e1.byte) := cell_later bel3 c_aM_2; (first | (have zz0 := cell_later bel3 zz0; have zf0 := frozen_later bel3 zy0 zf0; have zy0 := zz0; have zz1 := cell_later bel3 zz1; have zf1 := frozen_later bel3 zy1 zf1; have zy1 := zz1; have zz2 := cell_later bel3 zz2; have zf2 := frozen_later bel3 zy2 zf2; have zy2 := zz2) | (have zz0 := alloc_cell (w := W2) rbel3 (j := 0) rfl; have zf0 := alloc_frozen (w := W2) rbel3 (j := 0) rfl; have zz1 := alloc_cell (w := W2) rbel3 (j := 1) rfl; have zf1 := alloc_frozen (w := W2) rbel3 (j := 1) rfl; have zz2 := alloc_cell (w := W2) rbel3 (j := 2) rfl; have zf2 := alloc_frozen (w := W2) rbel3 (j := 2) rfl; (try simp only [alloc_size] at zz0 zf0 zz1 zf1 zz2 zf2); have zy0 := zz0; have zy1 := zz1; have zy2 := zz2; have zs := Below.size rbel3; simp only [alloc_size] at zs) | (have zz0 := alloc_cell (w := W2) (below_of_drew rbel3) (j := 0) rfl; have zf0 := alloc_frozen (w := W2) (below_of_drew rbel3) (j := 0) rfl; have zz1 := alloc_cell (w := W2) (below_of_drew rbel3) (j := 1) rfl; have zf1 := alloc_frozen (w := W2) (below_of_drew rbel3) (j := 1) rfl; have zz2 := alloc_cell (w := W2) (below_of_drew rbel3) (j := 2) rfl; have zf2 := alloc_frozen (w := W2) (below_of_drew rbel3) (j := 2) rfl; (try simp only [alloc_size] at zz0 zf0 zz1 zf1 zz2 zf2); have zy0 := zz0; have zy1 := zz1; have zy2 := zz2; have zs := Below.size (below_of_drew rbel3); simp only [alloc_size] at zs) | skip)))
    all_goals (go_wp2_with fail; go_meet; exact ⟨⟨_, rfl, (by first | (simp [go_sem]; done) | go_simp), (by first | (simp [go_sem]; done) | go_simp), (by first | (simp [go_sem]; done) | go_simp), (by first | omega | (simp <;> omega)), (by first | omega | (simp <;> omega))⟩, rfl, cell_keep (B := w.heap.size + 1) c_aM_0 (by repeat (first | exact Below.refl _ _ | assumption | refine Below.alloc ?_ (by first | omega | (simp <;> omega)) _ | refine Below.setCell ?_ (by first | omega | (simp <;> omega)) _ | refine Below.drew ?_ | refine below_drewN ?_ _)) (Nat.lt_succ_self _), cell_keep (B := w.heap.size + 1) c_aM_1 (by repeat (first | exact Below.refl _ _ | assumption | refine Below.alloc ?_ (by first | omega | (simp <;> omega)) _ | refine Below.setCell ?_ (by first | omega | (simp <;> omega)) _ | refine Below.drew ?_ | refine below_drewN ?_ _)) (Nat.lt_succ_self _), cell_keep (B := w.heap.size + 1) c_aM_2 (by repeat (first | exact Below.refl _ _ | assumption | refine Below.alloc ?_ (by first | omega | (simp <;> omega)) _ | refine Below.setCell ?_ (by first | omega | (simp <;> omega)) _ | refine Below.drew ?_ | refine below_drewN ?_ _)) (Nat.lt_succ_self _), (by repeat (first | exact Below.refl _ _ | assumption | refine Below.alloc ?_ (by first | omega | (simp <;> omega)) _ | refine Below.setCell ?_ (by first | omega | (simp <;> omega)) _ | refine Below.drew ?_ | refine below_drewN ?_ _)), (by first | omega | (simp <;> omega))⟩)
  obtain ⟨⟨bq_w0, rfl, c_w0_0, c_w0_1, c_w0_2, lo_w0, hi_w0⟩, rfl, c_aM_0, c_aM_1, c_aM_2, bc1, sc1⟩ := hcut
  obtain ⟨Wc1, hWc⟩ : ∃ W9 : World, W9 = wc := ⟨_, rfl⟩
  subst hWc
  go_wp2_with fail
  have p5 : w.heap.size ≤ Wc1.heap.size := bc1.size
  refine (toB_law hA0 bc1 (by omega)).mono ?_
  rintro e W5 ⟨x0, rfl, own_x0, bel5⟩
  have b5 := below_step bel5 bc1
  have s5 := bel5.size
  have c_aM_0 : W5.cell? ⟨w.heap.size, 0, none⟩ = some (.int .i64 e1.kind) := cell_later bel5 c_aM_0
  have c_aM_1 : W5.cell? ⟨w.heap.size, 1, none⟩ = some (.int .i64 e1.pos) := cell_later bel5 c_aM_1
  have c_aM_2 : W5.cell? ⟨w.heap.size, 2, none⟩ = some (.int .i64 e1.byte) := cell_later bel5 c_aM_2
  have c_w0_0 : W5.cell? ⟨bq_w0, 0, none⟩ = some (.int .i64 (invM l0 e1).kind) := cell_later bel5 c_w0_0
  have c_w0_1 : W5.cell? ⟨bq_w0, 1, none⟩ = some (.int .i64 (invM l0 e1).pos) := cell_later bel5 c_w0_1
  have c_w0_2 : W5.cell? ⟨bq_w0, 2, none⟩ = some (.int .i64 (invM l0 e1).byte) := cell_later bel5 c_w0_2
  go_wp2_with fail
  refine (toMutation_any e1 _).mono ?_
  rintro e W6 ⟨rfl, bel6⟩
  have b6 := below_step bel6 b5
  have s6 := bel6.size
  have own_x0 := own_x0.keep (Out.of_below bel6 W5.heap.size W5.heap.size) (by omega)
  have c_aM_0 : W6.cell? ⟨w.heap.size, 0, none⟩ = some (.int .i64 e1.kind) := cell_later bel6 c_aM_0
  have c_aM_1 : W6.cell? ⟨w.heap.size, 1, none⟩ = some (.int .i64 e1.pos) := cell_later bel6 c_aM_1
  have c_aM_2 : W6.cell? ⟨w.heap.size, 2, none⟩ = some (.int .i64 e1.byte) := cell_later bel6 c_aM_2
  have c_w0_0 : W6.cell? ⟨bq_w0, 0, none⟩ = some (.int .i64 (invM l0 e1).kind) := cell_later bel6 c_w0_0
  have c_w0_1 : W6.cell? ⟨bq_w0, 1, none⟩ = some (.int .i64 (invM l0 e1).pos) := cell_later bel6 c_w0_1
  have c_w0_2 : W6.cell? ⟨bq_w0, 2, none⟩ = some (.int .i64 (invM l0 e1).byte) := cell_later bel6 c_w0_2
  go_wp2_with fail
  refine (implInvert_law own_x0 hl0 hA1).mono ?_
  rintro e W7 ⟨rfl, bel7⟩
  have b7 := below_step bel7 b6
  have s7 := bel7.size
  have own_x0 := own_x0.keep (Out.of_below bel7 W6.heap.size W6.heap.size) (by omega)
  have c_aM_0 : W7.cell? ⟨w.heap.size, 0, none⟩ = some (.int .i64 e1.kind) := cell_later bel7 c_aM_0
  have c_aM_1 : W7.cell? ⟨w.heap.size, 1, none⟩ = some (.int .i64 e1.pos) := cell_later bel7 c_aM_1
  have c_aM_2 : W7.cell? ⟨w.heap.size, 2, none⟩ = some (.int .i64 e1.byte) := cell_later bel7 c_aM_2
  have c_w0_0 : W7.cell? ⟨bq_w0, 0, none⟩ = some (.int .i64 (invM l0 e1).kind) := cell_later bel7 c_w0_0
  have c_w0_1 : W7.cell? ⟨bq_w0, 1, none⟩ = some (.int .i64 (invM l0 e1).pos) := cell_later bel7 c_w0_1
  have c_w0_2 : W7.cell? ⟨bq_w0, 2, none⟩ = some (.int .i64 (invM l0 e1).byte) := cell_later bel7 c_w0_2
  have bx2 : Below w.heap.size w (W7.alloc (.cells #[.int .i64 (invM l0 e1).kind, .int .i64 (invM l0 e1).pos, .int .i64 (invM l0 e1).byte] 28)) := b7.alloc b7.size _
  have bz2 : W7.heap.size + 1 ≤ (W7.alloc (.cells #[.int .i64 (invM l0 e1).kind, .int .i64 (invM l0 e1).pos, .int .i64 (invM l0 e1).byte] 28)).heap.size := by simp
  have by2 : (W7.alloc (.cells #[.int .i64 (invM l0 e1).kind, .int .i64 (invM l0 e1).pos, .int .i64 (invM l0 e1).byte] 28)).heap.size ≤ W7.heap.size + 1 := by simp
  have bw2 : w.heap.size ≤ W7.heap.size := b7.size
  have c_aM_0 : (W7.alloc (.cells #[.int .i64 (invM l0 e1).kind, .int .i64 (invM l0 e1).pos, .int .i64 (invM l0 e1).byte] 28)).cell? ⟨w.heap.size, 0, none⟩ = some (.int .i64 e1.kind) := cell_later ((Below.refl _ _).alloc (Nat.le_refl _) _) c_aM_0
  have c_aM_1 : (W7.alloc (.cells #[.int .i64 (invM l0 e1).kind, .int .i64 (invM l0 e1).pos, .int .i64 (invM l0 e1).byte] 28)).cell? ⟨w.heap.size, 1, none⟩ = some (.int .i64 e1.pos) := cell_later ((Below.refl _ _).alloc (Nat.le_refl _) _) c_aM_1
  have c_aM_2 : (W7.alloc (.cells #[.int .i64 (invM l0 e1).kind, .int .i64 (invM l0 e1).pos, .int .i64 (invM l0 e1).byte] 28)).cell? ⟨w.heap.size, 2, none⟩ = some (.int .i64 e1.byte) := cell_later ((Below.refl _ _).alloc (Nat.le_refl _) _) c_aM_2
  have c_w0_0 : (W7.alloc (.cells #[.int .i64 (invM l0 e1).kind, .int .i64 (invM l0 e1).pos, .int .i64 (invM l0 e1).byte] 28)).cell? ⟨bq_w0, 0, none⟩ = some (.int .i64 (invM l0 e1).kind) := cell_later ((Below.refl _ _).alloc (Nat.le_refl _) _) c_w0_0
  have c_w0_1 : (W7.alloc (.cells #[.int .i64 (invM l0 e1).kind, .int .i64 (invM l0 e1).pos, .int .i64 (invM l0 e1).byte] 28)).cell? ⟨bq_w0, 1, none⟩ = some (.int .i64 (invM l0 e1).pos) := cell_later ((Below.refl _ _).alloc (Nat.le_refl _) _) c_w0_1
  have c_w0_2 : (W7.alloc (.cells #[.int .i64 (invM l0 e1).kind, .int .i64 (invM l0 e1).pos, .int .i64 (invM l0 e1).byte] 28)).cell? ⟨bq_w0, 2, none⟩ = some (.int .i64 (invM l0 e1).byte) := cell_later ((Below.refl _ _).alloc (Nat.le_refl _) _) c_w0_2
  have own_x0 := own_x0.keep (Out.of_below ((Below.refl W7.heap.size W7).alloc (Nat.le_refl _) (.cells #[.int .i64 (invM l0 e1).kind, .int .i64 (invM l0 e1).pos, .int .i64 (invM l0 e1).byte] 28)) W7.heap.size W7.heap.size) (by omega)
  have c_g0_0 : (W7.alloc (.cells #[.int .i64 (invM l0 e1).kind, .int .i64 (invM l0 e1).pos, .int .i64 (invM l0 e1).byte] 28)).cell? ⟨W7.heap.size, 0, none⟩ = some (.int .i64 (invM l0 e1).kind) := by simp [go_sem]
  have c_g0_1 : (W7.alloc (.cells #[.int .i64 (invM l0 e1).kind, .int .i64 (invM l0 e1).pos, .int .i64 (invM l0 e1).byte] 28)).cell? ⟨W7.heap.size, 1, none⟩ = some (.int .i64 (invM l0 e1).pos) := by simp [go_sem]
  have c_g0_2 : (W7.alloc (.cells #[.int .i64 (invM l0 e1).kind, .int .i64 (invM l0 e1).pos, .int .i64 (invM l0 e1).byte] 28)).cell? ⟨W7.heap.size, 2, none⟩ = some (.int .i64 (invM l0 e1).byte) := by simp [go_sem]
  go_wp2_with fail
  refine (eqMutation_same (invM l0 e1) _).mono ?_
  rintro e W8 ⟨rfl, bel8⟩
  have b8 := below_step bel8 bx2
  have s8 := bel8.size
  have own_x0 := own_x0.keep (Out.of_below bel8 (W7.alloc (.cells #[.int .i64 (invM l0 e1).kind, .int .i64 (invM l0 e1).pos, .int .i64 (invM l0 e1).byte] 28)).heap.size (W7.alloc (.cells #[.int .i64 (invM l0 e1).kind, .int .i64 (invM l0 e1).pos, .int .i64 (invM l0 e1).byte] 28)).heap.size) (by omega)
  have c_aM_0 : W8.cell? ⟨w.heap.size, 0, none⟩ = some (.int .i64 e1.kind) := cell_later bel8 c_aM_0
  have c_aM_1 : W8.cell? ⟨w.heap.size, 1, none⟩ = some (.int .i64 e1.pos) := cell_later bel8 c_aM_1
  have c_aM_2 : W8.cell? ⟨w.heap.size, 2, none⟩ = some (.int .i64 e1.byte) := cell_later bel8 c_aM_2
  have c_w0_0 : W8.cell? ⟨bq_w0, 0, none⟩ = some (.int .i64 (invM l0 e1).kind) := cell_later bel8 c_w0_0
  have c_w0_1 : W8.cell? ⟨bq_w0, 1, none⟩ = some (.int .i64 (invM l0 e1).pos) := cell_later bel8 c_w0_1
  have c_w0_2 : W8.cell? ⟨bq_w0, 2, none⟩ = some (.int .i64 (invM l0 e1).byte) := cell_later bel8 c_w0_2
  have c_g0_0 : W8.cell? ⟨W7.heap.size, 0, none⟩ = some (.int .i64 (invM l0 e1).kind) := cell_later bel8 c_g0_0
  have c_g0_1 : W8.cell? ⟨W7.heap.size, 1, none⟩ = some (.int .i64 (invM l0 e1).pos) := cell_later bel8 c_g0_1
  have c_g0_2 : W8.cell? ⟨W7.heap.size, 2, none⟩ = some (.int .i64 (invM l0 e1).byte) := cell_later bel8 c_g0_2
  go_wp2_with fail
  have p9 : w.heap.size ≤ W8.heap.size := b8.size
  refine (toB_law hA0 b8 (by omega)).mono ?_
  rintro e W9 ⟨t1, rfl, own_t1, bel9⟩
  have b9 := below_step bel9 b8
  have s9 := bel9.size
  have own_x0 := own_x0.keep (Out.of_below bel9 W8.heap.size W8.heap.size) (by omega)
  have c_aM_0 : W9.cell? ⟨w.heap.size, 0, none⟩ = some (.int .i64 e1.kind) := cell_later bel9 c_aM_0
  have c_aM_1 : W9.cell? ⟨w.heap.size, 1, none⟩ = some (.int .i64 e1.pos) := cell_later bel9 c_aM_1
  have c_aM_2 : W9.cell? ⟨w.heap.size, 2, none⟩ = some (.int .i64 e1.byte) := cell_later bel9 c_aM_2
  have c_w0_0 : W9.cell? ⟨bq_w0, 0, none⟩ = some (.int .i64 (invM l0 e1).kind) := cell_later bel9 c_w0_0
  have c_w0_1 : W9.cell? ⟨bq_w0, 1, none⟩ = some (.int .i64 (invM l0 e1).pos) := cell_later bel9 c_w0_1
  have c_w0_2 : W9.cell? ⟨bq_w0, 2, none⟩ = some (.int .i64 (invM l0 e1).byte) := cell_later bel9 c_w0_2
  have c_g0_0 : W9.cell? ⟨W7.heap.size, 0, none⟩ = some (.int .i64 (invM l0 e1).kind) := cell_later bel9 c_g0_0
  have c_g0_1 : W9.cell? ⟨W7.heap.size, 1, none⟩ = some (.int .i64 (invM l0 e1).pos) := cell_later bel9 c_g0_1
  have c_g0_2 : W9.cell? ⟨W7.heap.size, 2, none⟩ = some (.int .i64 (invM l0 e1).byte) := cell_later bel9 c_g0_2
  go_wp2_with fail
  refine (eqB_law own_x0 own_t1).mono ?_
  rintro e W10 ⟨rfl, bel10⟩
  have b10 := below_step bel10 b9
  have s10 := bel10.size
  have own_x0 := own_x0.keep (Out.of_below bel10 W9.heap.size W9.heap.size) (by omega)
  have own_t1 := own_t1.keep (Out.of_below bel10 W9.heap.size W9.heap.size) (by omega)
  have c_aM_0 : W10.cell? ⟨w.heap.size, 0, none⟩ = some (.int .i64 e1.kind) := cell_later bel10 c_aM_0
  have c_aM_1 : W10.cell? ⟨w.heap.size, 1, none⟩ = some (.int .i64 e1.pos) := cell_later bel10 c_aM_1
  have c_aM_2 : W10.cell? ⟨w.heap.size, 2, none⟩ = some (.int .i64 e1.byte) := cell_later bel10 c_aM_2
  have c_w0_0 : W10.cell? ⟨bq_w0, 0, none⟩ = some (.int .i64 (invM l0 e1).kind) := cell_later bel10 c_w0_0
  have c_w0_1 : W10.cell? ⟨bq_w0, 1, none⟩ = some (.int .i64 (invM l0 e1).pos) := cell_later bel10 c_w0_1
  have c_w0_2 : W10.cell? ⟨bq_w0, 2, none⟩ = some (.int .i64 (invM l0 e1).byte) := cell_later bel10 c_w0_2
  have c_g0_0 : W10.cell? ⟨W7.heap.size, 0, none⟩ = some (.int .i64 (invM l0 e1).kind) := cell_later bel10 c_g0_0
  have c_g0_1 : W10.cell? ⟨W7.heap.size, 1, none⟩ = some (.int .i64 (invM l0 e1).pos) := cell_later bel10 c_g0_1
  have c_g0_2 : W10.cell? ⟨W7.heap.size, 2, none⟩ = some (.int .i64 (invM l0 e1).byte) := cell_later bel10 c_g0_2
  clear own_t1
  have HB := Lib.hid b10
  clear own_x0 hA0 hA1
  go_wp2
  go_ret
  exact ⟨rfl, HB.out⟩
end Go.Proofs.Ytacehndbkimggaa.FnExactInvertMutation
