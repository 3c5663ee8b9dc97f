/- The walk of the law FnExactFormatMutation. No condition but those of its arguments. -/
import Derived.Test.YtopplnfjdgoaaaaDoorFmtD
import Derived.Test.YtopplnfjdgoaaaaDoorMut
import Derived.Test.YtopplnfjdgoaaaaDoorOpenMut
import Derived.Test.YtopplnfjdgoaaaaDoorOwn
import Derived.WalkSpells
import Derived.WalkLawsBesides
import Derived.Deep.RegionHeld3
import Derived.Deep.DeepCutAuto
namespace Go.Proofs.YtopplnfjdgoaaaaDoor.FnExactFormatMutation
open Go.RowKit
set_option maxHeartbeats 2000000 in
set_option maxRecDepth 100000 in
theorem walk (e0 : Muta) (w : World) (hA0 : e0.ok) (ht : Tab w) :
    Calls Tryd.prog 3 #[.agg #[.int .i64 e0.kind, .int .i64 e0.pos, .int .i64 e0.byte]] w fun e w' => e = .returned (.bool true) ∧ Below w.heap.size w w' := by
  have HT := Lib.hid ht
  clear ht
  go_enter Tryd.func3, Tryd.ntmps3
  have bx1 : Below w.heap.size w (w.alloc (.cells #[.int .i64 e0.kind, .int .i64 e0.pos, .int .i64 e0.byte] 23)) := (Below.refl w.heap.size w).alloc (Below.refl w.heap.size w).size _
  have bz1 : w.heap.size + 1 ≤ (w.alloc (.cells #[.int .i64 e0.kind, .int .i64 e0.pos, .int .i64 e0.byte] 23)).heap.size := by simp
  have by1 : (w.alloc (.cells #[.int .i64 e0.kind, .int .i64 e0.pos, .int .i64 e0.byte] 23)).heap.size ≤ w.heap.size + 1 := by simp
  have bw1 : w.heap.size ≤ w.heap.size := (Below.refl w.heap.size w).size
  have c_aM_0 : (w.alloc (.cells #[.int .i64 e0.kind, .int .i64 e0.pos, .int .i64 e0.byte] 23)).cell? ⟨w.heap.size, 0, none⟩ = some (.int .i64 e0.kind) := by simp [go_sem]
  have c_aM_1 : (w.alloc (.cells #[.int .i64 e0.kind, .int .i64 e0.pos, .int .i64 e0.byte] 23)).cell? ⟨w.heap.size, 1, none⟩ = some (.int .i64 e0.pos) := by simp [go_sem]
  have c_aM_2 : (w.alloc (.cells #[.int .i64 e0.kind, .int .i64 e0.pos, .int .i64 e0.byte] 23)).cell? ⟨w.heap.size, 2, none⟩ = some (.int .i64 e0.byte) := by simp [go_sem]
  go_wp2_with fail
  refine (toMutation_any e0 _).mono ?_
  rintro e W1 ⟨rfl, bel1⟩
  have b1 := below_step bel1 bx1
  have s1 := bel1.size
  have c_aM_0 : W1.cell? ⟨w.heap.size, 0, none⟩ = some (.int .i64 e0.kind) := cell_later bel1 c_aM_0
  have c_aM_1 : W1.cell? ⟨w.heap.size, 1, none⟩ = some (.int .i64 e0.pos) := cell_later bel1 c_aM_1
  have c_aM_2 : W1.cell? ⟨w.heap.size, 2, none⟩ = some (.int .i64 e0.byte) := cell_later bel1 c_aM_2
  go_wp2_with fail
  refine (specFormatMutation_any e0.kind e0.pos e0.byte _ hA0.2.1 hA0.2.2).mono ?_
  rintro e W2 ⟨rfl, bel2⟩
  have b2 := below_step bel2 b1
  have s2 := bel2.size
  have c_aM_0 : W2.cell? ⟨w.heap.size, 0, none⟩ = some (.int .i64 e0.kind) := cell_later bel2 c_aM_0
  have c_aM_1 : W2.cell? ⟨w.heap.size, 1, none⟩ = some (.int .i64 e0.pos) := cell_later bel2 c_aM_1
  have c_aM_2 : W2.cell? ⟨w.heap.size, 2, none⟩ = some (.int .i64 e0.byte) := cell_later bel2 c_aM_2
  go_wp2_with fail
  refine (toMutation_any e0 _).mono ?_
  rintro e W3 ⟨rfl, bel3⟩
  have b3 := below_step bel3 b2
  have s3 := bel3.size
  have c_aM_0 : W3.cell? ⟨w.heap.size, 0, none⟩ = some (.int .i64 e0.kind) := cell_later bel3 c_aM_0
  have c_aM_1 : W3.cell? ⟨w.heap.size, 1, none⟩ = some (.int .i64 e0.pos) := cell_later bel3 c_aM_1
  have c_aM_2 : W3.cell? ⟨w.heap.size, 2, none⟩ = some (.int .i64 e0.byte) := cell_later bel3 c_aM_2
  go_wp2_with fail
  refine (implFormatMutation_any e0.kind e0.pos e0.byte _ hA0.2.1 hA0.2.2 (tab_on HT.out b3)).mono ?_
  rintro e W4 ⟨rfl, bel4⟩
  have b4 := below_step bel4 b3
  have s4 := bel4.size
  have c_aM_0 : W4.cell? ⟨w.heap.size, 0, none⟩ = some (.int .i64 e0.kind) := cell_later bel4 c_aM_0
  have c_aM_1 : W4.cell? ⟨w.heap.size, 1, none⟩ = some (.int .i64 e0.pos) := cell_later bel4 c_aM_1
  have c_aM_2 : W4.cell? ⟨w.heap.size, 2, none⟩ = some (.int .i64 e0.byte) := cell_later bel4 c_aM_2
  have HB := Lib.hid b4
  clear  hA0
  go_wp2
  go_ret
  exact ⟨rfl, HB.out⟩
end Go.Proofs.YtopplnfjdgoaaaaDoor.FnExactFormatMutation
