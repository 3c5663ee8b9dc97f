/- The walk of the law FnExactMutationOf. No condition but those of its arguments. -/
import Derived.Test.YtacehndbkimggaaMutOf
import Derived.Test.YtacehndbkimggaaOwn
import Derived.Test.YtacehndbkimggaaMut
import Derived.WalkSpells
import Derived.WalkLawsBesides
import Derived.Deep.RegionHeld3
import Derived.Deep.DeepCutAuto
namespace Go.Proofs.Ytacehndbkimggaa.FnExactMutationOf
open Go.RowKit
set_option maxHeartbeats 2000000 in
set_option maxRecDepth 100000 in
theorem walk (a0 : Int) (a1 : Int) (w : World) (hA0 : -9223372036854775808 ≤ a0 ∧ a0 ≤ 9223372036854775807) (hA1 : -9223372036854775808 ≤ a1 ∧ a1 ≤ 9223372036854775807) :
    Calls Try.prog 5 #[.int .i64 a0, .int .i64 a1] w fun e w' => e = .returned (.bool true) ∧ Below w.heap.size w w' := by
  go_enter Try.func5, Try.ntmps5
  go_wp2_with fail
  refine (specMutOf_any a0 a1 _ hA0).mono ?_
  rintro e W1 ⟨rfl, bel1⟩
  have b1 := below_step bel1 (Below.refl w.heap.size w)
  have s1 := bel1.size
  have bx1 : Below w.heap.size w (W1.alloc (.cells #[.int .i64 (mOf a0 a1).kind, .int .i64 (mOf a0 a1).pos, .int .i64 (mOf a0 a1).byte] 28)) := b1.alloc b1.size _
  have bz1 : W1.heap.size + 1 ≤ (W1.alloc (.cells #[.int .i64 (mOf a0 a1).kind, .int .i64 (mOf a0 a1).pos, .int .i64 (mOf a0 a1).byte] 28)).heap.size := by simp
  have by1 : (W1.alloc (.cells #[.int .i64 (mOf a0 a1).kind, .int .i64 (mOf a0 a1).pos, .int .i64 (mOf a0 a1).byte] 28)).heap.size ≤ W1.heap.size + 1 := by simp
  have bw1 : w.heap.size ≤ W1.heap.size := b1.size
  have c_w0_0 : (W1.alloc (.cells #[.int .i64 (mOf a0 a1).kind, .int .i64 (mOf a0 a1).pos, .int .i64 (mOf a0 a1).byte] 28)).cell? ⟨W1.heap.size, 0, none⟩ = some (.int .i64 (mOf a0 a1).kind) := by simp [go_sem]
  have c_w0_1 : (W1.alloc (.cells #[.int .i64 (mOf a0 a1).kind, .int .i64 (mOf a0 a1).pos, .int .i64 (mOf a0 a1).byte] 28)).cell? ⟨W1.heap.size, 1, none⟩ = some (.int .i64 (mOf a0 a1).pos) := by simp [go_sem]
  have c_w0_2 : (W1.alloc (.cells #[.int .i64 (mOf a0 a1).kind, .int .i64 (mOf a0 a1).pos, .int .i64 (mOf a0 a1).byte] 28)).cell? ⟨W1.heap.size, 2, none⟩ = some (.int .i64 (mOf a0 a1).byte) := by simp [go_sem]
  go_wp2_with fail
  refine (implMutOf_any a0 a1 _ hA0).mono ?_
  rintro e W2 ⟨rfl, bel2⟩
  have b2 := below_step bel2 bx1
  have s2 := bel2.size
  have c_w0_0 : W2.cell? ⟨W1.heap.size, 0, none⟩ = some (.int .i64 (mOf a0 a1).kind) := cell_later bel2 c_w0_0
  have c_w0_1 : W2.cell? ⟨W1.heap.size, 1, none⟩ = some (.int .i64 (mOf a0 a1).pos) := cell_later bel2 c_w0_1
  have c_w0_2 : W2.cell? ⟨W1.heap.size, 2, none⟩ = some (.int .i64 (mOf a0 a1).byte) := cell_later bel2 c_w0_2
  have bx2 : Below w.heap.size w (W2.alloc (.cells #[.int .i64 (mOf a0 a1).kind, .int .i64 (mOf a0 a1).pos, .int .i64 (mOf a0 a1).byte] 28)) := b2.alloc b2.size _
  have bz2 : W2.heap.size + 1 ≤ (W2.alloc (.cells #[.int .i64 (mOf a0 a1).kind, .int .i64 (mOf a0 a1).pos, .int .i64 (mOf a0 a1).byte] 28)).heap.size := by simp
  have by2 : (W2.alloc (.cells #[.int .i64 (mOf a0 a1).kind, .int .i64 (mOf a0 a1).pos, .int .i64 (mOf a0 a1).byte] 28)).heap.size ≤ W2.heap.size + 1 := by simp
  have bw2 : w.heap.size ≤ W2.heap.size := b2.size
  have c_w0_0 : (W2.alloc (.cells #[.int .i64 (mOf a0 a1).kind, .int .i64 (mOf a0 a1).pos, .int .i64 (mOf a0 a1).byte] 28)).cell? ⟨W1.heap.size, 0, none⟩ = some (.int .i64 (mOf a0 a1).kind) := cell_later ((Below.refl _ _).alloc (Nat.le_refl _) _) c_w0_0
  have c_w0_1 : (W2.alloc (.cells #[.int .i64 (mOf a0 a1).kind, .int .i64 (mOf a0 a1).pos, .int .i64 (mOf a0 a1).byte] 28)).cell? ⟨W1.heap.size, 1, none⟩ = some (.int .i64 (mOf a0 a1).pos) := cell_later ((Below.refl _ _).alloc (Nat.le_refl _) _) c_w0_1
  have c_w0_2 : (W2.alloc (.cells #[.int .i64 (mOf a0 a1).kind, .int .i64 (mOf a0 a1).pos, .int .i64 (mOf a0 a1).byte] 28)).cell? ⟨W1.heap.size, 2, none⟩ = some (.int .i64 (mOf a0 a1).byte) := cell_later ((Below.refl _ _).alloc (Nat.le_refl _) _) c_w0_2
  have c_g0_0 : (W2.alloc (.cells #[.int .i64 (mOf a0 a1).kind, .int .i64 (mOf a0 a1).pos, .int .i64 (mOf a0 a1).byte] 28)).cell? ⟨W2.heap.size, 0, none⟩ = some (.int .i64 (mOf a0 a1).kind) := by simp [go_sem]
  have c_g0_1 : (W2.alloc (.cells #[.int .i64 (mOf a0 a1).kind, .int .i64 (mOf a0 a1).pos, .int .i64 (mOf a0 a1).byte] 28)).cell? ⟨W2.heap.size, 1, none⟩ = some (.int .i64 (mOf a0 a1).pos) := by simp [go_sem]
  have c_g0_2 : (W2.alloc (.cells #[.int .i64 (mOf a0 a1).kind, .int .i64 (mOf a0 a1).pos, .int .i64 (mOf a0 a1).byte] 28)).cell? ⟨W2.heap.size, 2, none⟩ = some (.int .i64 (mOf a0 a1).byte) := by simp [go_sem]
  go_wp2_with fail
  refine (eqMutation_same (mOf a0 a1) _).mono ?_
  rintro e W3 ⟨rfl, bel3⟩
  have b3 := below_step bel3 bx2
  have s3 := bel3.size
  have c_w0_0 : W3.cell? ⟨W1.heap.size, 0, none⟩ = some (.int .i64 (mOf a0 a1).kind) := cell_later bel3 c_w0_0
  have c_w0_1 : W3.cell? ⟨W1.heap.size, 1, none⟩ = some (.int .i64 (mOf a0 a1).pos) := cell_later bel3 c_w0_1
  have c_w0_2 : W3.cell? ⟨W1.heap.size, 2, none⟩ = some (.int .i64 (mOf a0 a1).byte) := cell_later bel3 c_w0_2
  have c_g0_0 : W3.cell? ⟨W2.heap.size, 0, none⟩ = some (.int .i64 (mOf a0 a1).kind) := cell_later bel3 c_g0_0
  have c_g0_1 : W3.cell? ⟨W2.heap.size, 1, none⟩ = some (.int .i64 (mOf a0 a1).pos) := cell_later bel3 c_g0_1
  have c_g0_2 : W3.cell? ⟨W2.heap.size, 2, none⟩ = some (.int .i64 (mOf a0 a1).byte) := cell_later bel3 c_g0_2
  have HB := Lib.hid b3
  clear  hA0 hA1
  go_wp2
  go_ret
  exact ⟨rfl, HB.out⟩
end Go.Proofs.Ytacehndbkimggaa.FnExactMutationOf
