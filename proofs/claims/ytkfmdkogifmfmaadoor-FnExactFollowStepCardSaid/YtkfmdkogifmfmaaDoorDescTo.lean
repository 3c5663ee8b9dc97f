/- The walks of toRule, toRuleS, toDescription: a description copied into memory of its own. Conditions: the parts are at most 2^20 long. -/
import Derived.Test.YtkfmdkogifmfmaaDoorDescSz
import Derived.Test.YtkfmdkogifmfmaaDoorOwnB
import Derived.Test.YtkfmdkogifmfmaaDoorOwnS
import Derived.Test.YtkfmdkogifmfmaaDoorOwnI
import Derived.WalkSpells
import Derived.WalkLawsBesides
namespace Go.Proofs.YtkfmdkogifmfmaaDoor
set_option linter.unusedSimpArgs false
set_option linter.unusedVariables false
open Go.RowKit

/-- A rule whose four rows are the call's own, in blocks from lo up to hi. -/
def RM.own (lo hi : Nat) (w : World) (r : RM) : Prop := ∃ m1 m2 m3, OwB r.d.bytes lo m1 w r.vb ∧ OwS r.d.names m1 m2 w r.vn ∧ OwI r.d.tags m2 m3 w r.vt ∧ OwI r.d.kids m3 hi w r.vk ∧ lo ≤ m1 ∧ m1 ≤ m2 ∧ m2 ≤ m3 ∧ m3 ≤ hi
theorem RM.own.keep {r : RM} {lo hi lo' hi' : Nat} {w w' : World} (h : r.own lo hi w) (ho : Out lo' hi' w w') (hd : hi ≤ lo' ∨ hi' ≤ lo) : r.own lo hi w' := by
  obtain ⟨m1, m2, m3, h1, h2, h3, h4, a, b, c, d⟩ := h
  exact ⟨m1, m2, m3, h1.keep ho (by omega), h2.keep ho (by omega), h3.keep ho (by omega), h4.keep ho (by omega), a, b, c, d⟩
theorem RM.own.rd {r : RM} {lo hi : Nat} {w : World} (h : r.own lo hi w) : r.rd w w.heap.size := by
  obtain ⟨m1, m2, m3, h1, h2, h3, h4, _⟩ := h
  exact ⟨h1.sl, h2.sl, h3.sl, h4.sl⟩

theorem RM.own_fin {r : RM} {a b l1 m1 m2 m3 m4 lo hi : Nat} {W W' : World} (h1 : OwB r.d.bytes l1 m1 W r.vb) (h2 : OwS r.d.names m1 m2 W r.vn) (h3 : OwI r.d.tags m2 m3 W r.vt) (h4 : OwI r.d.kids m3 m4 W r.vk)
    (ho : Out a b W W') (hb : b ≤ l1) (z1 : l1 ≤ m1) (z2 : m1 ≤ m2) (z3 : m2 ≤ m3) (hi4 : m4 ≤ hi) (hlo : lo ≤ l1) (z4 : m3 ≤ m4) : r.own lo hi W' :=
  ⟨m1, m2, m3, Row.wide (h1.keep ho (by omega)) hlo (Nat.le_refl _), h2.keep ho (by omega), h3.keep ho (by omega), Row.wide (h4.keep ho (by omega)) (Nat.le_refl _) hi4, by omega, by omega, by omega, by omega⟩
set_option maxHeartbeats 2000000 in
set_option maxRecDepth 100000 in
theorem toRule_any (r : RM) (B : Nat) (w : World) (h : r.rd w B) (hB : B ≤ w.heap.size) (hs : r.d.small 1048576) :
    Calls Tryd.prog 43 #[rmV r] w fun e w' => ∃ vb vn vt vk, e = .returned (rmV ⟨r.d, vb, vn, vt, vk⟩) ∧ (⟨r.d, vb, vn, vt, vk⟩ : RM).own w.heap.size w'.heap.size w' ∧ Below w.heap.size w w' := by
  unfold rmV
  have s1 := hs.bytes; have s2 := hs.names; have s3 := hs.tags; have s4 := hs.kids
  go_enter Tryd.func43, Tryd.ntmps43
  go_wp2_with fail
  refine (made_of_fresh (toByteS_any _ r.d.bytes B _ (h.b.below ((((Below.refl B w).alloc hB _).alloc (by simp; omega) _).alloc (by simp; omega) _)) (by simp; omega) (by omega))).mono ?_
  rintro e W1 ⟨v1, rfl, own1, bel1⟩
  obtain ⟨A1, c1, rfl⟩ := row_slice own1
  have b1 : Below w.heap.size w W1 := below_step bel1 ((((Below.refl w.heap.size w).alloc (Nat.le_refl _) _).alloc (by simp) _).alloc (by simp; omega) _)
  have own1 : OwB r.d.bytes (w.heap.size + 3) W1.heap.size W1 (.slice A1 r.d.bytes.length c1) := by have := own1; simp only [World.size_alloc] at this; exact this
  have z1 := bel1.size
  simp only [World.size_alloc] at z1
  have f4 : W1.frozen? ⟨w.heap.size + 2, 4, none⟩ = false := (bel1.frozen (p := ⟨w.heap.size + 2, 4, none⟩) (by simp <;> omega)).trans (by simp [go_sem])
  have f5 : W1.frozen? ⟨w.heap.size + 2, 5, none⟩ = false := (bel1.frozen (p := ⟨w.heap.size + 2, 5, none⟩) (by simp <;> omega)).trans (by simp [go_sem])
  have f6 : W1.frozen? ⟨w.heap.size + 2, 6, none⟩ = false := (bel1.frozen (p := ⟨w.heap.size + 2, 6, none⟩) (by simp <;> omega)).trans (by simp [go_sem])
  have f7 : W1.frozen? ⟨w.heap.size + 2, 7, none⟩ = false := (bel1.frozen (p := ⟨w.heap.size + 2, 7, none⟩) (by simp <;> omega)).trans (by simp [go_sem])
  have g0 : W1.frozen? ⟨w.heap.size + 1, 0, none⟩ = false := (bel1.frozen (p := ⟨w.heap.size + 1, 0, none⟩) (by simp <;> omega)).trans (by simp [go_sem])
  have g1 : W1.frozen? ⟨w.heap.size + 1, 1, none⟩ = false := (bel1.frozen (p := ⟨w.heap.size + 1, 1, none⟩) (by simp <;> omega)).trans (by simp [go_sem])
  have g2 : W1.frozen? ⟨w.heap.size + 1, 2, none⟩ = false := (bel1.frozen (p := ⟨w.heap.size + 1, 2, none⟩) (by simp <;> omega)).trans (by simp [go_sem])
  have g3 : W1.frozen? ⟨w.heap.size + 1, 3, none⟩ = false := (bel1.frozen (p := ⟨w.heap.size + 1, 3, none⟩) (by simp <;> omega)).trans (by simp [go_sem])
  have g4 : W1.frozen? ⟨w.heap.size + 1, 4, none⟩ = false := (bel1.frozen (p := ⟨w.heap.size + 1, 4, none⟩) (by simp <;> omega)).trans (by simp [go_sem])
  have g5 : W1.frozen? ⟨w.heap.size + 1, 5, none⟩ = false := (bel1.frozen (p := ⟨w.heap.size + 1, 5, none⟩) (by simp <;> omega)).trans (by simp [go_sem])
  have g6 : W1.frozen? ⟨w.heap.size + 1, 6, none⟩ = false := (bel1.frozen (p := ⟨w.heap.size + 1, 6, none⟩) (by simp <;> omega)).trans (by simp [go_sem])
  have g7 : W1.frozen? ⟨w.heap.size + 1, 7, none⟩ = false := (bel1.frozen (p := ⟨w.heap.size + 1, 7, none⟩) (by simp <;> omega)).trans (by simp [go_sem])
  have p5' : W1.cell? ⟨w.heap.size, 5, none⟩ = some (r.vn) := cell_later bel1 (by simp [go_sem])
  have p6' : W1.cell? ⟨w.heap.size, 6, none⟩ = some (r.vt) := cell_later bel1 (by simp [go_sem])
  have p7' : W1.cell? ⟨w.heap.size, 7, none⟩ = some (r.vk) := cell_later bel1 (by simp [go_sem])
  have o0' : W1.cell? ⟨w.heap.size + 2, 0, none⟩ = some (.string r.d.name) := cell_later bel1 (by simp [go_sem])
  have o1' : W1.cell? ⟨w.heap.size + 2, 1, none⟩ = some (.int .i64 r.d.kind) := cell_later bel1 (by simp [go_sem])
  have o2' : W1.cell? ⟨w.heap.size + 2, 2, none⟩ = some (.int .i64 r.d.size) := cell_later bel1 (by simp [go_sem])
  have o3' : W1.cell? ⟨w.heap.size + 2, 3, none⟩ = some (.bool r.d.little) := cell_later bel1 (by simp [go_sem])
  have o4' : W1.cell? ⟨w.heap.size + 2, 4, none⟩ = some (.slice none 0 0) := cell_later bel1 (by simp [go_sem])
  have o5' : W1.cell? ⟨w.heap.size + 2, 5, none⟩ = some (.slice none 0 0) := cell_later bel1 (by simp [go_sem])
  have o6' : W1.cell? ⟨w.heap.size + 2, 6, none⟩ = some (.slice none 0 0) := cell_later bel1 (by simp [go_sem])
  have o7' : W1.cell? ⟨w.heap.size + 2, 7, none⟩ = some (.slice none 0 0) := cell_later bel1 (by simp [go_sem])
  have r0' : W1.cell? ⟨w.heap.size + 1, 0, none⟩ = some (.string ⟨#[]⟩) := cell_later bel1 (by simp [go_sem])
  have r1' : W1.cell? ⟨w.heap.size + 1, 1, none⟩ = some (.int .i64 0) := cell_later bel1 (by simp [go_sem])
  have r2' : W1.cell? ⟨w.heap.size + 1, 2, none⟩ = some (.int .i64 0) := cell_later bel1 (by simp [go_sem])
  have r3' : W1.cell? ⟨w.heap.size + 1, 3, none⟩ = some (.bool false) := cell_later bel1 (by simp [go_sem])
  have r4' : W1.cell? ⟨w.heap.size + 1, 4, none⟩ = some (.slice none 0 0) := cell_later bel1 (by simp [go_sem])
  have r5' : W1.cell? ⟨w.heap.size + 1, 5, none⟩ = some (.slice none 0 0) := cell_later bel1 (by simp [go_sem])
  have r6' : W1.cell? ⟨w.heap.size + 1, 6, none⟩ = some (.slice none 0 0) := cell_later bel1 (by simp [go_sem])
  have r7' : W1.cell? ⟨w.heap.size + 1, 7, none⟩ = some (.slice none 0 0) := cell_later bel1 (by simp [go_sem])
  have p5 := p5'
  have p6 := p6'
  have p7 := p7'
  have o0 := o0'
  have o1 := o1'
  have o2 := o2'
  have o3 := o3'
  have o4 := o4'
  have o5 := o5'
  have o6 := o6'
  have o7 := o7'
  have r0 := r0'
  have r1 := r1'
  have r2 := r2'
  have r3 := r3'
  have r4 := r4'
  have r5 := r5'
  have r6 := r6'
  have r7 := r7'
  clear p5' p6' p7' o0' o1' o2' o3' o4' o5' o6' o7' r0' r1' r2' r3' r4' r5' r6' r7'
  clear bel1
  go_wp2_with fail
  refine (made_of_fresh (toStringS_any _ r.d.names B _ (h.n.below (Below.setCell (p := ⟨w.heap.size + 2, 4, none⟩) (b1.mono hB) (by show B ≤ w.heap.size + 2; omega) _)) (by simp; omega) (by omega))).mono ?_
  rintro e W2 ⟨v2, rfl, own2, bel2⟩
  obtain ⟨A2, c2, rfl⟩ := row_slice own2
  have b2 : Below w.heap.size w W2 := below_step bel2 (Below.setCell (p := ⟨w.heap.size + 2, 4, none⟩) b1 (by show w.heap.size ≤ w.heap.size + 2; omega) _)
  have own2 : OwS r.d.names W1.heap.size W2.heap.size W2 (.slice A2 r.d.names.length c2) := by have := own2; simp only [World.size_setCell] at this; exact this
  have z2 := bel2.size
  simp only [World.size_setCell] at z2
  have own1 := (own1.keep (Out.of_grown (lo := w.heap.size + 2) (hi := w.heap.size + 3) (grownBy_setCell W1 (w.heap.size + 2) 4 (.slice A1 r.d.bytes.length c1)) (fun g hg => by cases hg; omega)) (by omega)).keep (Out.of_below bel2 0 0) (by omega)
  have f5 : W2.frozen? ⟨w.heap.size + 2, 5, none⟩ = false := (bel2.frozen (p := ⟨w.heap.size + 2, 5, none⟩) (by simp <;> omega)).trans (by simp [go_sem, f5])
  have f6 : W2.frozen? ⟨w.heap.size + 2, 6, none⟩ = false := (bel2.frozen (p := ⟨w.heap.size + 2, 6, none⟩) (by simp <;> omega)).trans (by simp [go_sem, f6])
  have f7 : W2.frozen? ⟨w.heap.size + 2, 7, none⟩ = false := (bel2.frozen (p := ⟨w.heap.size + 2, 7, none⟩) (by simp <;> omega)).trans (by simp [go_sem, f7])
  have g0 : W2.frozen? ⟨w.heap.size + 1, 0, none⟩ = false := (bel2.frozen (p := ⟨w.heap.size + 1, 0, none⟩) (by simp <;> omega)).trans (by simp [go_sem, g0])
  have g1 : W2.frozen? ⟨w.heap.size + 1, 1, none⟩ = false := (bel2.frozen (p := ⟨w.heap.size + 1, 1, none⟩) (by simp <;> omega)).trans (by simp [go_sem, g1])
  have g2 : W2.frozen? ⟨w.heap.size + 1, 2, none⟩ = false := (bel2.frozen (p := ⟨w.heap.size + 1, 2, none⟩) (by simp <;> omega)).trans (by simp [go_sem, g2])
  have g3 : W2.frozen? ⟨w.heap.size + 1, 3, none⟩ = false := (bel2.frozen (p := ⟨w.heap.size + 1, 3, none⟩) (by simp <;> omega)).trans (by simp [go_sem, g3])
  have g4 : W2.frozen? ⟨w.heap.size + 1, 4, none⟩ = false := (bel2.frozen (p := ⟨w.heap.size + 1, 4, none⟩) (by simp <;> omega)).trans (by simp [go_sem, g4])
  have g5 : W2.frozen? ⟨w.heap.size + 1, 5, none⟩ = false := (bel2.frozen (p := ⟨w.heap.size + 1, 5, none⟩) (by simp <;> omega)).trans (by simp [go_sem, g5])
  have g6 : W2.frozen? ⟨w.heap.size + 1, 6, none⟩ = false := (bel2.frozen (p := ⟨w.heap.size + 1, 6, none⟩) (by simp <;> omega)).trans (by simp [go_sem, g6])
  have g7 : W2.frozen? ⟨w.heap.size + 1, 7, none⟩ = false := (bel2.frozen (p := ⟨w.heap.size + 1, 7, none⟩) (by simp <;> omega)).trans (by simp [go_sem, g7])
  have p6' : W2.cell? ⟨w.heap.size, 6, none⟩ = some (r.vt) := cell_later bel2 (by first | (simp [go_sem, p6]; done) | (simp [go_sem]; done) | simp [go_sem, p5, p6, p7, o0, o1, o2, o3, o4, o5, o6, o7, r0, r1, r2, r3, r4, r5, r6, r7])
  have p7' : W2.cell? ⟨w.heap.size, 7, none⟩ = some (r.vk) := cell_later bel2 (by first | (simp [go_sem, p7]; done) | (simp [go_sem]; done) | simp [go_sem, p5, p6, p7, o0, o1, o2, o3, o4, o5, o6, o7, r0, r1, r2, r3, r4, r5, r6, r7])
  have o0' : W2.cell? ⟨w.heap.size + 2, 0, none⟩ = some (.string r.d.name) := cell_later bel2 (by first | (simp [go_sem, o0]; done) | (simp [go_sem]; done) | simp [go_sem, p5, p6, p7, o0, o1, o2, o3, o4, o5, o6, o7, r0, r1, r2, r3, r4, r5, r6, r7])
  have o1' : W2.cell? ⟨w.heap.size + 2, 1, none⟩ = some (.int .i64 r.d.kind) := cell_later bel2 (by first | (simp [go_sem, o1]; done) | (simp [go_sem]; done) | simp [go_sem, p5, p6, p7, o0, o1, o2, o3, o4, o5, o6, o7, r0, r1, r2, r3, r4, r5, r6, r7])
  have o2' : W2.cell? ⟨w.heap.size + 2, 2, none⟩ = some (.int .i64 r.d.size) := cell_later bel2 (by first | (simp [go_sem, o2]; done) | (simp [go_sem]; done) | simp [go_sem, p5, p6, p7, o0, o1, o2, o3, o4, o5, o6, o7, r0, r1, r2, r3, r4, r5, r6, r7])
  have o3' : W2.cell? ⟨w.heap.size + 2, 3, none⟩ = some (.bool r.d.little) := cell_later bel2 (by first | (simp [go_sem, o3]; done) | (simp [go_sem]; done) | simp [go_sem, p5, p6, p7, o0, o1, o2, o3, o4, o5, o6, o7, r0, r1, r2, r3, r4, r5, r6, r7])
  have o4' : W2.cell? ⟨w.heap.size + 2, 4, none⟩ = some (.slice A1 r.d.bytes.length c1) := cell_later bel2 (by first | (simp [go_sem, o4]; done) | (simp [go_sem]; done) | simp [go_sem, p5, p6, p7, o0, o1, o2, o3, o4, o5, o6, o7, r0, r1, r2, r3, r4, r5, r6, r7])
  have o5' : W2.cell? ⟨w.heap.size + 2, 5, none⟩ = some (.slice none 0 0) := cell_later bel2 (by first | (simp [go_sem, o5]; done) | (simp [go_sem]; done) | simp [go_sem, p5, p6, p7, o0, o1, o2, o3, o4, o5, o6, o7, r0, r1, r2, r3, r4, r5, r6, r7])
  have o6' : W2.cell? ⟨w.heap.size + 2, 6, none⟩ = some (.slice none 0 0) := cell_later bel2 (by first | (simp [go_sem, o6]; done) | (simp [go_sem]; done) | simp [go_sem, p5, p6, p7, o0, o1, o2, o3, o4, o5, o6, o7, r0, r1, r2, r3, r4, r5, r6, r7])
  have o7' : W2.cell? ⟨w.heap.size + 2, 7, none⟩ = some (.slice none 0 0) := cell_later bel2 (by first | (simp [go_sem, o7]; done) | (simp [go_sem]; done) | simp [go_sem, p5, p6, p7, o0, o1, o2, o3, o4, o5, o6, o7, r0, r1, r2, r3, r4, r5, r6, r7])
  have r0' : W2.cell? ⟨w.heap.size + 1, 0, none⟩ = some (.string ⟨#[]⟩) := cell_later bel2 (by first | (simp [go_sem, r0]; done) | (simp [go_sem]; done) | simp [go_sem, p5, p6, p7, o0, o1, o2, o3, o4, o5, o6, o7, r0, r1, r2, r3, r4, r5, r6, r7])
  have r1' : W2.cell? ⟨w.heap.size + 1, 1, none⟩ = some (.int .i64 0) := cell_later bel2 (by first | (simp [go_sem, r1]; done) | (simp [go_sem]; done) | simp [go_sem, p5, p6, p7, o0, o1, o2, o3, o4, o5, o6, o7, r0, r1, r2, r3, r4, r5, r6, r7])
  have r2' : W2.cell? ⟨w.heap.size + 1, 2, none⟩ = some (.int .i64 0) := cell_later bel2 (by first | (simp [go_sem, r2]; done) | (simp [go_sem]; done) | simp [go_sem, p5, p6, p7, o0, o1, o2, o3, o4, o5, o6, o7, r0, r1, r2, r3, r4, r5, r6, r7])
  have r3' : W2.cell? ⟨w.heap.size + 1, 3, none⟩ = some (.bool false) := cell_later bel2 (by first | (simp [go_sem, r3]; done) | (simp [go_sem]; done) | simp [go_sem, p5, p6, p7, o0, o1, o2, o3, o4, o5, o6, o7, r0, r1, r2, r3, r4, r5, r6, r7])
  have r4' : W2.cell? ⟨w.heap.size + 1, 4, none⟩ = some (.slice none 0 0) := cell_later bel2 (by first | (simp [go_sem, r4]; done) | (simp [go_sem]; done) | simp [go_sem, p5, p6, p7, o0, o1, o2, o3, o4, o5, o6, o7, r0, r1, r2, r3, r4, r5, r6, r7])
  have r5' : W2.cell? ⟨w.heap.size + 1, 5, none⟩ = some (.slice none 0 0) := cell_later bel2 (by first | (simp [go_sem, r5]; done) | (simp [go_sem]; done) | simp [go_sem, p5, p6, p7, o0, o1, o2, o3, o4, o5, o6, o7, r0, r1, r2, r3, r4, r5, r6, r7])
  have r6' : W2.cell? ⟨w.heap.size + 1, 6, none⟩ = some (.slice none 0 0) := cell_later bel2 (by first | (simp [go_sem, r6]; done) | (simp [go_sem]; done) | simp [go_sem, p5, p6, p7, o0, o1, o2, o3, o4, o5, o6, o7, r0, r1, r2, r3, r4, r5, r6, r7])
  have r7' : W2.cell? ⟨w.heap.size + 1, 7, none⟩ = some (.slice none 0 0) := cell_later bel2 (by first | (simp [go_sem, r7]; done) | (simp [go_sem]; done) | simp [go_sem, p5, p6, p7, o0, o1, o2, o3, o4, o5, o6, o7, r0, r1, r2, r3, r4, r5, r6, r7])
  clear o0 o1 o2 o3 o4 o5 o6 o7 p5 p6 p7 r0 r1 r2 r3 r4 r5 r6 r7
  have p6 := p6'
  have p7 := p7'
  have o0 := o0'
  have o1 := o1'
  have o2 := o2'
  have o3 := o3'
  have o4 := o4'
  have o5 := o5'
  have o6 := o6'
  have o7 := o7'
  have r0 := r0'
  have r1 := r1'
  have r2 := r2'
  have r3 := r3'
  have r4 := r4'
  have r5 := r5'
  have r6 := r6'
  have r7 := r7'
  clear p6' p7' o0' o1' o2' o3' o4' o5' o6' o7' r0' r1' r2' r3' r4' r5' r6' r7'
  clear bel2
  go_wp2_with fail
  refine (made_of_fresh (toIntS_any _ r.d.tags B _ (h.t.below (Below.setCell (p := ⟨w.heap.size + 2, 5, none⟩) (b2.mono hB) (by show B ≤ w.heap.size + 2; omega) _)) (by simp; omega) (by omega))).mono ?_
  rintro e W3 ⟨v3, rfl, own3, bel3⟩
  obtain ⟨A3, c3, rfl⟩ := row_slice own3
  have b3 : Below w.heap.size w W3 := below_step bel3 (Below.setCell (p := ⟨w.heap.size + 2, 5, none⟩) b2 (by show w.heap.size ≤ w.heap.size + 2; omega) _)
  have own3 : OwI r.d.tags W2.heap.size W3.heap.size W3 (.slice A3 r.d.tags.length c3) := by have := own3; simp only [World.size_setCell] at this; exact this
  have z3 := bel3.size
  simp only [World.size_setCell] at z3
  have own1 := (own1.keep (Out.of_grown (lo := w.heap.size + 2) (hi := w.heap.size + 3) (grownBy_setCell W2 (w.heap.size + 2) 5 (.slice A2 r.d.names.length c2)) (fun g hg => by cases hg; omega)) (by omega)).keep (Out.of_below bel3 0 0) (by omega)
  have own2 := (own2.keep (Out.of_grown (lo := w.heap.size + 2) (hi := w.heap.size + 3) (grownBy_setCell W2 (w.heap.size + 2) 5 (.slice A2 r.d.names.length c2)) (fun g hg => by cases hg; omega)) (by omega)).keep (Out.of_below bel3 0 0) (by omega)
  have f6 : W3.frozen? ⟨w.heap.size + 2, 6, none⟩ = false := (bel3.frozen (p := ⟨w.heap.size + 2, 6, none⟩) (by simp <;> omega)).trans (by simp [go_sem, f6])
  have f7 : W3.frozen? ⟨w.heap.size + 2, 7, none⟩ = false := (bel3.frozen (p := ⟨w.heap.size + 2, 7, none⟩) (by simp <;> omega)).trans (by simp [go_sem, f7])
  have g0 : W3.frozen? ⟨w.heap.size + 1, 0, none⟩ = false := (bel3.frozen (p := ⟨w.heap.size + 1, 0, none⟩) (by simp <;> omega)).trans (by simp [go_sem, g0])
  have g1 : W3.frozen? ⟨w.heap.size + 1, 1, none⟩ = false := (bel3.frozen (p := ⟨w.heap.size + 1, 1, none⟩) (by simp <;> omega)).trans (by simp [go_sem, g1])
  have g2 : W3.frozen? ⟨w.heap.size + 1, 2, none⟩ = false := (bel3.frozen (p := ⟨w.heap.size + 1, 2, none⟩) (by simp <;> omega)).trans (by simp [go_sem, g2])
  have g3 : W3.frozen? ⟨w.heap.size + 1, 3, none⟩ = false := (bel3.frozen (p := ⟨w.heap.size + 1, 3, none⟩) (by simp <;> omega)).trans (by simp [go_sem, g3])
  have g4 : W3.frozen? ⟨w.heap.size + 1, 4, none⟩ = false := (bel3.frozen (p := ⟨w.heap.size + 1, 4, none⟩) (by simp <;> omega)).trans (by simp [go_sem, g4])
  have g5 : W3.frozen? ⟨w.heap.size + 1, 5, none⟩ = false := (bel3.frozen (p := ⟨w.heap.size + 1, 5, none⟩) (by simp <;> omega)).trans (by simp [go_sem, g5])
  have g6 : W3.frozen? ⟨w.heap.size + 1, 6, none⟩ = false := (bel3.frozen (p := ⟨w.heap.size + 1, 6, none⟩) (by simp <;> omega)).trans (by simp [go_sem, g6])
  have g7 : W3.frozen? ⟨w.heap.size + 1, 7, none⟩ = false := (bel3.frozen (p := ⟨w.heap.size + 1, 7, none⟩) (by simp <;> omega)).trans (by simp [go_sem, g7])
  have p7' : W3.cell? ⟨w.heap.size, 7, none⟩ = some (r.vk) := cell_later bel3 (by first | (simp [go_sem, p7]; done) | (simp [go_sem]; done) | simp [go_sem, p6, p7, o0, o1, o2, o3, o4, o5, o6, o7, r0, r1, r2, r3, r4, r5, r6, r7])
  have o0' : W3.cell? ⟨w.heap.size + 2, 0, none⟩ = some (.string r.d.name) := cell_later bel3 (by first | (simp [go_sem, o0]; done) | (simp [go_sem]; done) | simp [go_sem, p6, p7, o0, o1, o2, o3, o4, o5, o6, o7, r0, r1, r2, r3, r4, r5, r6, r7])
  have o1' : W3.cell? ⟨w.heap.size + 2, 1, none⟩ = some (.int .i64 r.d.kind) := cell_later bel3 (by first | (simp [go_sem, o1]; done) | (simp [go_sem]; done) | simp [go_sem, p6, p7, o0, o1, o2, o3, o4, o5, o6, o7, r0, r1, r2, r3, r4, r5, r6, r7])
  have o2' : W3.cell? ⟨w.heap.size + 2, 2, none⟩ = some (.int .i64 r.d.size) := cell_later bel3 (by first | (simp [go_sem, o2]; done) | (simp [go_sem]; done) | simp [go_sem, p6, p7, o0, o1, o2, o3, o4, o5, o6, o7, r0, r1, r2, r3, r4, r5, r6, r7])
  have o3' : W3.cell? ⟨w.heap.size + 2, 3, none⟩ = some (.bool r.d.little) := cell_later bel3 (by first | (simp [go_sem, o3]; done) | (simp [go_sem]; done) | simp [go_sem, p6, p7, o0, o1, o2, o3, o4, o5, o6, o7, r0, r1, r2, r3, r4, r5, r6, r7])
  have o4' : W3.cell? ⟨w.heap.size + 2, 4, none⟩ = some (.slice A1 r.d.bytes.length c1) := cell_later bel3 (by first | (simp [go_sem, o4]; done) | (simp [go_sem]; done) | simp [go_sem, p6, p7, o0, o1, o2, o3, o4, o5, o6, o7, r0, r1, r2, r3, r4, r5, r6, r7])
  have o5' : W3.cell? ⟨w.heap.size + 2, 5, none⟩ = some (.slice A2 r.d.names.length c2) := cell_later bel3 (by first | (simp [go_sem, o5]; done) | (simp [go_sem]; done) | simp [go_sem, p6, p7, o0, o1, o2, o3, o4, o5, o6, o7, r0, r1, r2, r3, r4, r5, r6, r7])
  have o6' : W3.cell? ⟨w.heap.size + 2, 6, none⟩ = some (.slice none 0 0) := cell_later bel3 (by first | (simp [go_sem, o6]; done) | (simp [go_sem]; done) | simp [go_sem, p6, p7, o0, o1, o2, o3, o4, o5, o6, o7, r0, r1, r2, r3, r4, r5, r6, r7])
  have o7' : W3.cell? ⟨w.heap.size + 2, 7, none⟩ = some (.slice none 0 0) := cell_later bel3 (by first | (simp [go_sem, o7]; done) | (simp [go_sem]; done) | simp [go_sem, p6, p7, o0, o1, o2, o3, o4, o5, o6, o7, r0, r1, r2, r3, r4, r5, r6, r7])
  have r0' : W3.cell? ⟨w.heap.size + 1, 0, none⟩ = some (.string ⟨#[]⟩) := cell_later bel3 (by first | (simp [go_sem, r0]; done) | (simp [go_sem]; done) | simp [go_sem, p6, p7, o0, o1, o2, o3, o4, o5, o6, o7, r0, r1, r2, r3, r4, r5, r6, r7])
  have r1' : W3.cell? ⟨w.heap.size + 1, 1, none⟩ = some (.int .i64 0) := cell_later bel3 (by first | (simp [go_sem, r1]; done) | (simp [go_sem]; done) | simp [go_sem, p6, p7, o0, o1, o2, o3, o4, o5, o6, o7, r0, r1, r2, r3, r4, r5, r6, r7])
  have r2' : W3.cell? ⟨w.heap.size + 1, 2, none⟩ = some (.int .i64 0) := cell_later bel3 (by first | (simp [go_sem, r2]; done) | (simp [go_sem]; done) | simp [go_sem, p6, p7, o0, o1, o2, o3, o4, o5, o6, o7, r0, r1, r2, r3, r4, r5, r6, r7])
  have r3' : W3.cell? ⟨w.heap.size + 1, 3, none⟩ = some (.bool false) := cell_later bel3 (by first | (simp [go_sem, r3]; done) | (simp [go_sem]; done) | simp [go_sem, p6, p7, o0, o1, o2, o3, o4, o5, o6, o7, r0, r1, r2, r3, r4, r5, r6, r7])
  have r4' : W3.cell? ⟨w.heap.size + 1, 4, none⟩ = some (.slice none 0 0) := cell_later bel3 (by first | (simp [go_sem, r4]; done) | (simp [go_sem]; done) | simp [go_sem, p6, p7, o0, o1, o2, o3, o4, o5, o6, o7, r0, r1, r2, r3, r4, r5, r6, r7])
  have r5' : W3.cell? ⟨w.heap.size + 1, 5, none⟩ = some (.slice none 0 0) := cell_later bel3 (by first | (simp [go_sem, r5]; done) | (simp [go_sem]; done) | simp [go_sem, p6, p7, o0, o1, o2, o3, o4, o5, o6, o7, r0, r1, r2, r3, r4, r5, r6, r7])
  have r6' : W3.cell? ⟨w.heap.size + 1, 6, none⟩ = some (.slice none 0 0) := cell_later bel3 (by first | (simp [go_sem, r6]; done) | (simp [go_sem]; done) | simp [go_sem, p6, p7, o0, o1, o2, o3, o4, o5, o6, o7, r0, r1, r2, r3, r4, r5, r6, r7])
  have r7' : W3.cell? ⟨w.heap.size + 1, 7, none⟩ = some (.slice none 0 0) := cell_later bel3 (by first | (simp [go_sem, r7]; done) | (simp [go_sem]; done) | simp [go_sem, p6, p7, o0, o1, o2, o3, o4, o5, o6, o7, r0, r1, r2, r3, r4, r5, r6, r7])
  clear o0 o1 o2 o3 o4 o5 o6 o7 p6 p7 r0 r1 r2 r3 r4 r5 r6 r7
  have p7 := p7'
  have o0 := o0'
  have o1 := o1'
  have o2 := o2'
  have o3 := o3'
  have o4 := o4'
  have o5 := o5'
  have o6 := o6'
  have o7 := o7'
  have r0 := r0'
  have r1 := r1'
  have r2 := r2'
  have r3 := r3'
  have r4 := r4'
  have r5 := r5'
  have r6 := r6'
  have r7 := r7'
  clear p7' o0' o1' o2' o3' o4' o5' o6' o7' r0' r1' r2' r3' r4' r5' r6' r7'
  clear bel3
  go_wp2_with fail
  refine (made_of_fresh (toIntS_any _ r.d.kids B _ (h.k.below (Below.setCell (p := ⟨w.heap.size + 2, 6, none⟩) (b3.mono hB) (by show B ≤ w.heap.size + 2; omega) _)) (by simp; omega) (by omega))).mono ?_
  rintro e W4 ⟨v4, rfl, own4, bel4⟩
  obtain ⟨A4, c4, rfl⟩ := row_slice own4
  have b4 : Below w.heap.size w W4 := below_step bel4 (Below.setCell (p := ⟨w.heap.size + 2, 6, none⟩) b3 (by show w.heap.size ≤ w.heap.size + 2; omega) _)
  have own4 : OwI r.d.kids W3.heap.size W4.heap.size W4 (.slice A4 r.d.kids.length c4) := by have := own4; simp only [World.size_setCell] at this; exact this
  have z4 := bel4.size
  simp only [World.size_setCell] at z4
  have own1 := (own1.keep (Out.of_grown (lo := w.heap.size + 2) (hi := w.heap.size + 3) (grownBy_setCell W3 (w.heap.size + 2) 6 (.slice A3 r.d.tags.length c3)) (fun g hg => by cases hg; omega)) (by omega)).keep (Out.of_below bel4 0 0) (by omega)
  have own2 := (own2.keep (Out.of_grown (lo := w.heap.size + 2) (hi := w.heap.size + 3) (grownBy_setCell W3 (w.heap.size + 2) 6 (.slice A3 r.d.tags.length c3)) (fun g hg => by cases hg; omega)) (by omega)).keep (Out.of_below bel4 0 0) (by omega)
  have own3 := (own3.keep (Out.of_grown (lo := w.heap.size + 2) (hi := w.heap.size + 3) (grownBy_setCell W3 (w.heap.size + 2) 6 (.slice A3 r.d.tags.length c3)) (fun g hg => by cases hg; omega)) (by omega)).keep (Out.of_below bel4 0 0) (by omega)
  have f7 : W4.frozen? ⟨w.heap.size + 2, 7, none⟩ = false := (bel4.frozen (p := ⟨w.heap.size + 2, 7, none⟩) (by simp <;> omega)).trans (by simp [go_sem, f7])
  have g0 : W4.frozen? ⟨w.heap.size + 1, 0, none⟩ = false := (bel4.frozen (p := ⟨w.heap.size + 1, 0, none⟩) (by simp <;> omega)).trans (by simp [go_sem, g0])
  have g1 : W4.frozen? ⟨w.heap.size + 1, 1, none⟩ = false := (bel4.frozen (p := ⟨w.heap.size + 1, 1, none⟩) (by simp <;> omega)).trans (by simp [go_sem, g1])
  have g2 : W4.frozen? ⟨w.heap.size + 1, 2, none⟩ = false := (bel4.frozen (p := ⟨w.heap.size + 1, 2, none⟩) (by simp <;> omega)).trans (by simp [go_sem, g2])
  have g3 : W4.frozen? ⟨w.heap.size + 1, 3, none⟩ = false := (bel4.frozen (p := ⟨w.heap.size + 1, 3, none⟩) (by simp <;> omega)).trans (by simp [go_sem, g3])
  have g4 : W4.frozen? ⟨w.heap.size + 1, 4, none⟩ = false := (bel4.frozen (p := ⟨w.heap.size + 1, 4, none⟩) (by simp <;> omega)).trans (by simp [go_sem, g4])
  have g5 : W4.frozen? ⟨w.heap.size + 1, 5, none⟩ = false := (bel4.frozen (p := ⟨w.heap.size + 1, 5, none⟩) (by simp <;> omega)).trans (by simp [go_sem, g5])
  have g6 : W4.frozen? ⟨w.heap.size + 1, 6, none⟩ = false := (bel4.frozen (p := ⟨w.heap.size + 1, 6, none⟩) (by simp <;> omega)).trans (by simp [go_sem, g6])
  have g7 : W4.frozen? ⟨w.heap.size + 1, 7, none⟩ = false := (bel4.frozen (p := ⟨w.heap.size + 1, 7, none⟩) (by simp <;> omega)).trans (by simp [go_sem, g7])
  have o0' : W4.cell? ⟨w.heap.size + 2, 0, none⟩ = some (.string r.d.name) := cell_later bel4 (by first | (simp [go_sem, o0]; done) | (simp [go_sem]; done) | simp [go_sem, p7, o0, o1, o2, o3, o4, o5, o6, o7, r0, r1, r2, r3, r4, r5, r6, r7])
  have o1' : W4.cell? ⟨w.heap.size + 2, 1, none⟩ = some (.int .i64 r.d.kind) := cell_later bel4 (by first | (simp [go_sem, o1]; done) | (simp [go_sem]; done) | simp [go_sem, p7, o0, o1, o2, o3, o4, o5, o6, o7, r0, r1, r2, r3, r4, r5, r6, r7])
  have o2' : W4.cell? ⟨w.heap.size + 2, 2, none⟩ = some (.int .i64 r.d.size) := cell_later bel4 (by first | (simp [go_sem, o2]; done) | (simp [go_sem]; done) | simp [go_sem, p7, o0, o1, o2, o3, o4, o5, o6, o7, r0, r1, r2, r3, r4, r5, r6, r7])
  have o3' : W4.cell? ⟨w.heap.size + 2, 3, none⟩ = some (.bool r.d.little) := cell_later bel4 (by first | (simp [go_sem, o3]; done) | (simp [go_sem]; done) | simp [go_sem, p7, o0, o1, o2, o3, o4, o5, o6, o7, r0, r1, r2, r3, r4, r5, r6, r7])
  have o4' : W4.cell? ⟨w.heap.size + 2, 4, none⟩ = some (.slice A1 r.d.bytes.length c1) := cell_later bel4 (by first | (simp [go_sem, o4]; done) | (simp [go_sem]; done) | simp [go_sem, p7, o0, o1, o2, o3, o4, o5, o6, o7, r0, r1, r2, r3, r4, r5, r6, r7])
  have o5' : W4.cell? ⟨w.heap.size + 2, 5, none⟩ = some (.slice A2 r.d.names.length c2) := cell_later bel4 (by first | (simp [go_sem, o5]; done) | (simp [go_sem]; done) | simp [go_sem, p7, o0, o1, o2, o3, o4, o5, o6, o7, r0, r1, r2, r3, r4, r5, r6, r7])
  have o6' : W4.cell? ⟨w.heap.size + 2, 6, none⟩ = some (.slice A3 r.d.tags.length c3) := cell_later bel4 (by first | (simp [go_sem, o6]; done) | (simp [go_sem]; done) | simp [go_sem, p7, o0, o1, o2, o3, o4, o5, o6, o7, r0, r1, r2, r3, r4, r5, r6, r7])
  have o7' : W4.cell? ⟨w.heap.size + 2, 7, none⟩ = some (.slice none 0 0) := cell_later bel4 (by first | (simp [go_sem, o7]; done) | (simp [go_sem]; done) | simp [go_sem, p7, o0, o1, o2, o3, o4, o5, o6, o7, r0, r1, r2, r3, r4, r5, r6, r7])
  have r0' : W4.cell? ⟨w.heap.size + 1, 0, none⟩ = some (.string ⟨#[]⟩) := cell_later bel4 (by first | (simp [go_sem, r0]; done) | (simp [go_sem]; done) | simp [go_sem, p7, o0, o1, o2, o3, o4, o5, o6, o7, r0, r1, r2, r3, r4, r5, r6, r7])
  have r1' : W4.cell? ⟨w.heap.size + 1, 1, none⟩ = some (.int .i64 0) := cell_later bel4 (by first | (simp [go_sem, r1]; done) | (simp [go_sem]; done) | simp [go_sem, p7, o0, o1, o2, o3, o4, o5, o6, o7, r0, r1, r2, r3, r4, r5, r6, r7])
  have r2' : W4.cell? ⟨w.heap.size + 1, 2, none⟩ = some (.int .i64 0) := cell_later bel4 (by first | (simp [go_sem, r2]; done) | (simp [go_sem]; done) | simp [go_sem, p7, o0, o1, o2, o3, o4, o5, o6, o7, r0, r1, r2, r3, r4, r5, r6, r7])
  have r3' : W4.cell? ⟨w.heap.size + 1, 3, none⟩ = some (.bool false) := cell_later bel4 (by first | (simp [go_sem, r3]; done) | (simp [go_sem]; done) | simp [go_sem, p7, o0, o1, o2, o3, o4, o5, o6, o7, r0, r1, r2, r3, r4, r5, r6, r7])
  have r4' : W4.cell? ⟨w.heap.size + 1, 4, none⟩ = some (.slice none 0 0) := cell_later bel4 (by first | (simp [go_sem, r4]; done) | (simp [go_sem]; done) | simp [go_sem, p7, o0, o1, o2, o3, o4, o5, o6, o7, r0, r1, r2, r3, r4, r5, r6, r7])
  have r5' : W4.cell? ⟨w.heap.size + 1, 5, none⟩ = some (.slice none 0 0) := cell_later bel4 (by first | (simp [go_sem, r5]; done) | (simp [go_sem]; done) | simp [go_sem, p7, o0, o1, o2, o3, o4, o5, o6, o7, r0, r1, r2, r3, r4, r5, r6, r7])
  have r6' : W4.cell? ⟨w.heap.size + 1, 6, none⟩ = some (.slice none 0 0) := cell_later bel4 (by first | (simp [go_sem, r6]; done) | (simp [go_sem]; done) | simp [go_sem, p7, o0, o1, o2, o3, o4, o5, o6, o7, r0, r1, r2, r3, r4, r5, r6, r7])
  have r7' : W4.cell? ⟨w.heap.size + 1, 7, none⟩ = some (.slice none 0 0) := cell_later bel4 (by first | (simp [go_sem, r7]; done) | (simp [go_sem]; done) | simp [go_sem, p7, o0, o1, o2, o3, o4, o5, o6, o7, r0, r1, r2, r3, r4, r5, r6, r7])
  clear o0 o1 o2 o3 o4 o5 o6 o7 p7 r0 r1 r2 r3 r4 r5 r6 r7
  have o0 := o0'
  have o1 := o1'
  have o2 := o2'
  have o3 := o3'
  have o4 := o4'
  have o5 := o5'
  have o6 := o6'
  have o7 := o7'
  have r0 := r0'
  have r1 := r1'
  have r2 := r2'
  have r3 := r3'
  have r4 := r4'
  have r5 := r5'
  have r6 := r6'
  have r7 := r7'
  clear o0' o1' o2' o3' o4' o5' o6' o7' r0' r1' r2' r3' r4' r5' r6' r7'
  clear bel4
  have HB := Lib.hid b4
  have HO := Lib.hid (And.intro own1 (And.intro own2 (And.intro own3 own4)))
  clear b1 b2 b3 b4 own1 own2 own3 own4 h
  go_wp2
  refine bodyPost_ret (v := .agg #[.string r.d.name, .int .i64 r.d.kind, .int .i64 r.d.size, .bool r.d.little, .slice A1 r.d.bytes.length c1, .slice A2 r.d.names.length c2, .slice A3 r.d.tags.length c3, .slice A4 r.d.kids.length c4]) (by simp [results, Tryd.results43, go_sem, r0, r1, r2, r3, r4, r5, r6, r7, o7]) rfl ⟨_, _, _, _, rfl, ?_, ?_⟩
  all_goals clear f7 g0 g1 g2 g3 g4 g5 g6 g7 o0 o1 o2 o3 o4 o5 o6 o7 r0 r1 r2 r3 r4 r5 r6 r7
  · have ho := HO.out
    obtain ⟨h1, h2, h3, h4⟩ := ho
    refine RM.own_fin (r := ⟨r.d, .slice A1 r.d.bytes.length c1, .slice A2 r.d.names.length c2, .slice A3 r.d.tags.length c3, .slice A4 r.d.kids.length c4⟩) (a := w.heap.size + 1) (b := w.heap.size + 3) (l1 := w.heap.size + 3) (m1 := W1.heap.size) (m2 := W2.heap.size) (m3 := W3.heap.size) (m4 := W4.heap.size) (W := W4) h1 h2 h3 h4 ?_ ?_ ?_ ?_ ?_ ?_ ?_ ?_
    · repeat (refine Out.setCell ?_ (by omega) (by omega) _)
      exact Out.refl _ _ _
    · omega
    · omega
    · omega
    · omega
    · simp
    · omega
    · omega
  · have hb := HB.out
    have e1 : w.heap.size ≤ w.heap.size + 1 + 1 := by omega
    have e2 : w.heap.size ≤ w.heap.size + 1 := by omega
    exact ((((((((hb.setCell (p := ⟨w.heap.size + 1 + 1, 7, none⟩) e1 _).setCell (p := ⟨w.heap.size + 1, 0, none⟩) e2 _).setCell (p := ⟨w.heap.size + 1, 1, none⟩) e2 _).setCell (p := ⟨w.heap.size + 1, 2, none⟩) e2 _).setCell (p := ⟨w.heap.size + 1, 3, none⟩) e2 _).setCell (p := ⟨w.heap.size + 1, 4, none⟩) e2 _).setCell (p := ⟨w.heap.size + 1, 5, none⟩) e2 _).setCell (p := ⟨w.heap.size + 1, 6, none⟩) e2 _).setCell (p := ⟨w.heap.size + 1, 7, none⟩) e2 _
end Go.Proofs.YtkfmdkogifmfmaaDoor
