/- The walk of the law FnExactFormatEntry. No condition but those of its arguments. -/
import Derived.Test.YtopplnfjdgoaaaaDoorFmtE
import Derived.Test.YtopplnfjdgoaaaaDoorOwn
import Derived.WalkSpells
import Derived.WalkLawsBesides
import Derived.Deep.RegionHeld3
import Derived.Deep.DeepCutAuto
namespace Go.Proofs.YtopplnfjdgoaaaaDoor.FnExactFormatEntry
open Go.RowKit
set_option maxHeartbeats 2000000 in
set_option maxRecDepth 100000 in
theorem walk (e0 : Ent) (w : World) (hA0 : e0.ok) (ht : Tab w) :
    Calls Tryd.prog 4 #[.agg #[.string e0.path, .int .i64 e0.rule, .int .i64 e0.start, .int .i64 e0.stop]] w fun e w' => e = .returned (.bool true) ∧ Below w.heap.size w w' := by
  have HT := Lib.hid ht
  clear ht
  go_enter Tryd.func4, Tryd.ntmps4
  have bx1 : Below w.heap.size w (w.alloc (.cells #[.string e0.path, .int .i64 e0.rule, .int .i64 e0.start, .int .i64 e0.stop] 29)) := (Below.refl w.heap.size w).alloc (Below.refl w.heap.size w).size _
  have bz1 : w.heap.size + 1 ≤ (w.alloc (.cells #[.string e0.path, .int .i64 e0.rule, .int .i64 e0.start, .int .i64 e0.stop] 29)).heap.size := by simp
  have by1 : (w.alloc (.cells #[.string e0.path, .int .i64 e0.rule, .int .i64 e0.start, .int .i64 e0.stop] 29)).heap.size ≤ w.heap.size + 1 := by simp
  have bw1 : w.heap.size ≤ w.heap.size := (Below.refl w.heap.size w).size
  have c_aE_0 : (w.alloc (.cells #[.string e0.path, .int .i64 e0.rule, .int .i64 e0.start, .int .i64 e0.stop] 29)).cell? ⟨w.heap.size, 0, none⟩ = some (.string e0.path) := by simp [go_sem]
  have c_aE_1 : (w.alloc (.cells #[.string e0.path, .int .i64 e0.rule, .int .i64 e0.start, .int .i64 e0.stop] 29)).cell? ⟨w.heap.size, 1, none⟩ = some (.int .i64 e0.rule) := by simp [go_sem]
  have c_aE_2 : (w.alloc (.cells #[.string e0.path, .int .i64 e0.rule, .int .i64 e0.start, .int .i64 e0.stop] 29)).cell? ⟨w.heap.size, 2, none⟩ = some (.int .i64 e0.start) := by simp [go_sem]
  have c_aE_3 : (w.alloc (.cells #[.string e0.path, .int .i64 e0.rule, .int .i64 e0.start, .int .i64 e0.stop] 29)).cell? ⟨w.heap.size, 3, none⟩ = some (.int .i64 e0.stop) := by simp [go_sem]
  go_wp2_with fail
  refine (szEnt_law e0 hA0 bx1 1048576 (by omega) (by omega)).mono ?_
  rintro e W1 ⟨z1, rfl, bel1, hr1⟩
  have b1 := below_step bel1 bx1
  have s1 := bel1.size
  have c_aE_0 : W1.cell? ⟨w.heap.size, 0, none⟩ = some (.string e0.path) := cell_later bel1 c_aE_0
  have c_aE_1 : W1.cell? ⟨w.heap.size, 1, none⟩ = some (.int .i64 e0.rule) := cell_later bel1 c_aE_1
  have c_aE_2 : W1.cell? ⟨w.heap.size, 2, none⟩ = some (.int .i64 e0.start) := cell_later bel1 c_aE_2
  have c_aE_3 : W1.cell? ⟨w.heap.size, 3, none⟩ = some (.int .i64 e0.stop) := cell_later bel1 c_aE_3
  rcases hr1 with rfl | ⟨q1, y1, hl0, all0⟩
  · have HB := Lib.hid b1
    clear hA0
    go_wp2
    go_ret
    exact ⟨rfl, HB.out⟩
  have HS0 := Lib.hid all0
  clear all0
  go_wp2_with fail
  refine (toEntry_any e0 _).mono ?_
  rintro e W2 ⟨rfl, bel2⟩
  have b2 := below_step bel2 b1
  have s2 := bel2.size
  have c_aE_0 : W2.cell? ⟨w.heap.size, 0, none⟩ = some (.string e0.path) := cell_later bel2 c_aE_0
  have c_aE_1 : W2.cell? ⟨w.heap.size, 1, none⟩ = some (.int .i64 e0.rule) := cell_later bel2 c_aE_1
  have c_aE_2 : W2.cell? ⟨w.heap.size, 2, none⟩ = some (.int .i64 e0.start) := cell_later bel2 c_aE_2
  have c_aE_3 : W2.cell? ⟨w.heap.size, 3, none⟩ = some (.int .i64 e0.stop) := cell_later bel2 c_aE_3
  go_wp2_with fail
  refine (specFormatEntry_any e0.path e0.rule e0.start e0.stop _ HS0.out hA0.2.2.1 hA0.2.2.2).mono ?_
  rintro e W3 ⟨rfl, bel3⟩
  have b3 := below_step bel3 b2
  have s3 := bel3.size
  have c_aE_0 : W3.cell? ⟨w.heap.size, 0, none⟩ = some (.string e0.path) := cell_later bel3 c_aE_0
  have c_aE_1 : W3.cell? ⟨w.heap.size, 1, none⟩ = some (.int .i64 e0.rule) := cell_later bel3 c_aE_1
  have c_aE_2 : W3.cell? ⟨w.heap.size, 2, none⟩ = some (.int .i64 e0.start) := cell_later bel3 c_aE_2
  have c_aE_3 : W3.cell? ⟨w.heap.size, 3, none⟩ = some (.int .i64 e0.stop) := cell_later bel3 c_aE_3
  go_wp2_with fail
  refine (toEntry_any e0 _).mono ?_
  rintro e W4 ⟨rfl, bel4⟩
  have b4 := below_step bel4 b3
  have s4 := bel4.size
  have c_aE_0 : W4.cell? ⟨w.heap.size, 0, none⟩ = some (.string e0.path) := cell_later bel4 c_aE_0
  have c_aE_1 : W4.cell? ⟨w.heap.size, 1, none⟩ = some (.int .i64 e0.rule) := cell_later bel4 c_aE_1
  have c_aE_2 : W4.cell? ⟨w.heap.size, 2, none⟩ = some (.int .i64 e0.start) := cell_later bel4 c_aE_2
  have c_aE_3 : W4.cell? ⟨w.heap.size, 3, none⟩ = some (.int .i64 e0.stop) := cell_later bel4 c_aE_3
  go_wp2_with fail
  refine (implFormatEntry_any e0.path e0.rule e0.start e0.stop _ HS0.out hA0.2.2.1 hA0.2.2.2 (tab_on HT.out b4)).mono ?_
  rintro e W5 ⟨rfl, bel5⟩
  have b5 := below_step bel5 b4
  have s5 := bel5.size
  have c_aE_0 : W5.cell? ⟨w.heap.size, 0, none⟩ = some (.string e0.path) := cell_later bel5 c_aE_0
  have c_aE_1 : W5.cell? ⟨w.heap.size, 1, none⟩ = some (.int .i64 e0.rule) := cell_later bel5 c_aE_1
  have c_aE_2 : W5.cell? ⟨w.heap.size, 2, none⟩ = some (.int .i64 e0.start) := cell_later bel5 c_aE_2
  have c_aE_3 : W5.cell? ⟨w.heap.size, 3, none⟩ = some (.int .i64 e0.stop) := cell_later bel5 c_aE_3
  have HB := Lib.hid b5
  clear  hA0
  go_wp2
  go_ret
  exact ⟨rfl, HB.out⟩
end Go.Proofs.YtopplnfjdgoaaaaDoor.FnExactFormatEntry
