/- The walks of the drawing functions (a cursor over bytes): what is drawn is a byte, or below a number. Conditions: the cursor's cells stand, its slice reads as a list. -/
import Derived.Test.YtopplnfjdgoaaaaDoorByte
import Derived.Test.YtopplnfjdgoaaaaDoorApp
import Derived.WalkSpells
import Derived.WalkLawsBesides
import Derived.BigQuiet
import Derived.Deep.QuietTactic
import Derived.Deep.RegionHeld3
namespace Go.Proofs.YtopplnfjdgoaaaaDoor
open Go.RowKit
/-- Block b holds a cursor over the slice v of n bytes. -/
def CurAt (w : World) (b : Nat) (v : Value) (n : Nat) : Prop :=
  w.cell? ⟨b, 0, none⟩ = some v ∧ (∃ i : Nat, i ≤ n ∧ w.cell? ⟨b, 1, none⟩ = some (.int .i64 i)) ∧ (∃ h : Int, w.cell? ⟨b, 2, none⟩ = some (.int .i64 h)) ∧ w.frozen? ⟨b, 1, none⟩ = false ∧ w.frozen? ⟨b, 2, none⟩ = false
/-- Nothing but block b was written, and no block was made. -/
def CurStep (b : Nat) (w w' : World) : Prop := w.grownBy w' (some b) ∧ w'.heap.size = w.heap.size
theorem cell_ne {w : World} {b o b' o' : Nat} {u : Value} (h : ¬ (b = b' ∧ o = o')) : (w.setCell ⟨b, o, none⟩ u).cell? ⟨b', o', none⟩ = w.cell? ⟨b', o', none⟩ :=
  World.cell?_setCell_other _ _ _ _ (fun e => h (by injection e with h1 h2; exact ⟨h1, h2⟩))
theorem CurAt.set2 {w : World} {b n : Nat} {v : Value} {X : Int} (h : CurAt w b v n) : CurAt (w.setCell ⟨b, 2, none⟩ (.int .i64 X)) b v n := by
  obtain ⟨c0, ⟨i, hi, c1⟩, ⟨hh, c2⟩, f1, f2⟩ := h
  exact ⟨(cell_ne (by omega)).trans c0, ⟨i, hi, (cell_ne (by omega)).trans c1⟩, ⟨X, World.cell?_setCell_same _ _ _ c2⟩, (World.frozen?_setCell _ _ _ _).trans f1, (World.frozen?_setCell _ _ _ _).trans f2⟩
theorem CurAt.set1 {w : World} {b n : Nat} {v : Value} {j : Nat} (h : CurAt w b v n) (hj : j ≤ n) : CurAt (w.setCell ⟨b, 1, none⟩ (.int .i64 j)) b v n := by
  obtain ⟨c0, ⟨i, hi, c1⟩, ⟨hh, c2⟩, f1, f2⟩ := h
  exact ⟨(cell_ne (by omega)).trans c0, ⟨j, hj, World.cell?_setCell_same _ _ _ c1⟩, ⟨hh, (cell_ne (by omega)).trans c2⟩, (World.frozen?_setCell _ _ _ _).trans f1, (World.frozen?_setCell _ _ _ _).trans f2⟩
theorem CurAt.drewN {w : World} {b n : Nat} {v : Value} (h : CurAt w b v n) (k : Nat) : CurAt (w.drewN k) b v n := h
theorem CurStep.refl (b : Nat) (w : World) : CurStep b w w := ⟨World.grownBy.refl _ _, rfl⟩
theorem CurStep.set {b o : Nat} {w w' : World} {u : Value} (h : CurStep b w w') : CurStep b w (w'.setCell ⟨b, o, none⟩ u) :=
  ⟨grownBy_trans h.1 (grownBy_setCell w' b o u), by rw [← h.2]; simp [World.setCell]⟩
theorem CurStep.drewN {b : Nat} {w w' : World} (h : CurStep b w w') (k : Nat) : CurStep b w (w'.drewN k) := ⟨⟨h.1.os, h.1.tape, h.1.output, h.1.size, h.1.block⟩, h.2⟩
theorem CurStep.trans {b : Nat} {a w w' : World} (h : CurStep b a w) (k : CurStep b w w') : CurStep b a w' := ⟨grownBy_trans h.1 k.1, k.2.trans h.2⟩
theorem and_255 (E : Int) : 0 ≤ bits .and .i64 E 255 ∧ bits .and .i64 E 255 ≤ 255 := by
  have h2 : (BitVec.ofInt 64 (255 : Int)).toNat = 255 := by decide
  have hx : (BitVec.ofInt 64 E &&& BitVec.ofInt 64 255).toNat ≤ 255 := by rw [BitVec.toNat_and, h2]; exact Nat.and_le_right
  show 0 ≤ IntKind.i64.wrap ((BitVec.ofInt 64 E &&& BitVec.ofInt 64 255).toNat : Int) ∧ IntKind.i64.wrap ((BitVec.ofInt 64 E &&& BitVec.ofInt 64 255).toNat : Int) ≤ 255
  rw [IntWalk.i64_in _ (by omega)]; omega
set_option maxHeartbeats 1000000 in
set_option maxRecDepth 100000 in
theorem l1Byte_any (b B : Nat) (v : Value) (l : List UInt8) (w : World) (h : SlB w B v l) (hB : B ≤ b) (hc : CurAt w b v l.length) :
    Calls Tryd.prog 34 #[.pointer (some ⟨b, 0, none⟩)] w fun e w' => (∃ x : Int, e = .returned (.int .i64 x) ∧ 0 ≤ x ∧ x ≤ 255) ∧ CurStep b w w' ∧ CurAt w' b v l.length := by
  obtain ⟨A, c, rfl, hc1, hcm, hcell⟩ := h.open_
  unfold maxLen at hcm
  have HC := Lib.hid hc
  obtain ⟨c0, ⟨i, hi, c1⟩, ⟨hh, c2⟩, f1, f2⟩ := hc
  go_enter Tryd.func34, Tryd.ntmps34
  go_wp2
  generalize wrap64 (wrap64 (hh * 6364136223846793005) + 1442695040888963407) = X
  have g2 : (w.setCell ⟨b, 2, none⟩ (.int .i64 X)).cell? ⟨b, 2, none⟩ = some (.int .i64 X) := by simp [go_sem, c2]
  have g1 : (w.setCell ⟨b, 2, none⟩ (.int .i64 X)).cell? ⟨b, 1, none⟩ = some (.int .i64 i) := by simp [go_sem, c1]
  have g0 : (w.setCell ⟨b, 2, none⟩ (.int .i64 X)).cell? ⟨b, 0, none⟩ = some (.slice A l.length c) := by simp [go_sem, c0]
  go_quiet (fail)
  by_cases hlt : i < l.length
  · obtain ⟨bb, off, rfl, hbb, hc3⟩ := hcell i hlt
    have g3 : (w.setCell ⟨b, 2, none⟩ (.int .i64 X)).cell? ⟨bb, off + i, none⟩ = some (.int .u8 l[i].toNat) := by
      rw [← hc3]; exact cell_ne (by omega)
    clear hcell
    go_wp2
    go_quiet (fail)
    go_wp2
    go_quiet (fail)
    go_wp2
    go_ret
    exact ⟨⟨_, rfl, and_255 _⟩, .set (.drewN (.set (.refl _ _)) _), CurAt.set1 (.drewN HC.out.set2 _) (j := i + 1) (by omega)⟩
  · clear hcell
    go_wp2
    go_quiet (fail)
    go_wp2
    go_ret
    exact ⟨⟨_, rfl, and_255 _⟩, .drewN (.drewN (.set (.refl _ _)) _) _, .drewN (.drewN HC.out.set2 _) _⟩

theorem SlB.step {b B : Nat} {v : Value} {l : List UInt8} {w w' : World} (h : SlB w B v l) (hs : CurStep b w w') (hB : B ≤ b) (hb : b < w.heap.size) : SlB w' B v l :=
  Sl.below h ((Below.refl B w).grown hs.1 (by omega) (fun k e => by injection e; omega))
theorem CurAt.lt {w : World} {b n : Nat} {v : Value} (h : CurAt w b v n) : b < w.heap.size := World.block_lt_of_cell? w ⟨b, 0, none⟩ h.1
def Drawn (b : Nat) (v : Value) (n : Nat) (w : World) (lo hi : Int) (e : Ending) (w' : World) : Prop := (∃ x : Int, e = .returned (.int .i64 x) ∧ lo ≤ x ∧ x ≤ hi) ∧ CurStep b w w' ∧ CurAt w' b v n
set_option maxHeartbeats 1000000 in
set_option maxRecDepth 100000 in
theorem l1Below_any (b B : Nat) (v : Value) (l : List UInt8) (m : Int) (w : World) (h : SlB w B v l) (hB : B ≤ b) (hc : CurAt w b v l.length) (hm : 0 < m) (hm2 : m ≤ 16777216) :
    Calls Tryd.prog 25 #[.pointer (some ⟨b, 0, none⟩), .int .i64 m] w (Drawn b v l.length w 0 (m - 1)) := by
  have H := Lib.hid h
  have HC := Lib.hid hc
  have hlt := hc.lt
  clear h hc
  have hz : (m == 0) = false := by rw [beq_eq_false_iff_ne]; omega
  by_cases h2 : m ≤ 256
  · go_enter Tryd.func25, Tryd.ntmps25
    go_wp2_with (go_at_call 34; refine (l1Byte_any b B v l _ H.out hB HC.out).mono ?_; rintro e w1 ⟨⟨x, rfl, hx0, hx1⟩, hs, hcu⟩; have hmod := Lib.hid (Int.tmod_eq_emod_of_nonneg (b := m) hx0); have HB1 := Lib.hid (Int.emod_nonneg x (show m ≠ 0 by omega)); have HB2 := Lib.hid (Int.emod_lt_of_pos x hm))
    go_ret
    exact ⟨⟨_, rfl, by have := hmod.out; have := HB1.out; omega, by have := hmod.out; have := HB2.out; omega⟩, hs, hcu⟩
  · go_enter Tryd.func25, Tryd.ntmps25
    go_wp2_with fail
    refine (l1Byte_any b B v l _ H.out hB HC.out).mono ?_
    rintro e w1 ⟨⟨x, rfl, hx0, hx1⟩, hs, hcu⟩
    have H1 := Lib.hid (H.out.step hs hB hlt)
    have hcu := Lib.hid hcu
    have hs := Lib.hid hs
    go_wp2_with fail
    refine (l1Byte_any b B v l _ H1.out hB hcu.out).mono ?_
    rintro e w2 ⟨⟨y, rfl, hy0, hy1⟩, hs2, hcu2⟩
    have hs2 := Lib.hid (hs.out.trans hs2)
    have H2 := Lib.hid (H.out.step hs2.out hB hlt)
    have hcu2 := Lib.hid hcu2
    go_wp2_with fail
    refine (l1Byte_any b B v l _ H2.out hB hcu2.out).mono ?_
    rintro e w3 ⟨⟨z, rfl, hz0, hz1⟩, hs3, hcu3⟩
    have hs3 := Lib.hid (hs2.out.trans hs3)
    have hcu3 := Lib.hid hcu3
    have hmod := Lib.hid (Int.tmod_eq_emod_of_nonneg (a := x * 65536 + y * 256 + z) (b := m) (by omega))
    have HB1 := Lib.hid (Int.emod_nonneg (x * 65536 + y * 256 + z) (show m ≠ 0 by omega))
    have HB2 := Lib.hid (Int.emod_lt_of_pos (x * 65536 + y * 256 + z) hm)
    go_wp2
    go_ret
    exact ⟨⟨_, rfl, by have := hmod.out; have := HB1.out; omega, by have := hmod.out; have := HB2.out; omega⟩, hs3.out, hcu3.out⟩
set_option maxHeartbeats 1000000 in
set_option maxRecDepth 100000 in
theorem l1New_any (v : Value) (l : List UInt8) (B : Nat) (w : World) (h : SlB w B v l) (hl : l.length ≤ 1048576) :
    Calls Tryd.prog 23 #[v] w fun e w' => e = .returned (.pointer (some ⟨w.heap.size, 0, none⟩)) ∧ (∃ x : Int, w' = w.alloc (.cells #[v, .int .i64 0, .int .i64 x] 59)) := by
  obtain ⟨A, c, rfl, hc1, hcm, hcell⟩ := h.open_
  unfold maxLen at hcm
  clear h
  go_enter Tryd.func23, Tryd.ntmps23
  go_wp2
  go_loop [3, 4] (fun h i => ∃ k : Nat, k ≤ l.length ∧ k ≤ 4000 ∧ i = .int .i64 k ∧ ∃ x : Int, h = .int .i64 x) (fun _ i => l.length - (intOf i).toNat)
  case atStart => exact ⟨0, Nat.zero_le _, Nat.zero_le _, rfl, _, rfl⟩
  case round =>
    obtain ⟨k, hk, hk2, rfl, x, rfl⟩ := hrel
    by_cases hlt : k < l.length
    · by_cases hlt2 : k < 4000
      · obtain ⟨bb, off, rfl, hbb, hc3⟩ := hcell k hlt
        clear hcell
        go_wp2
        go_round
        case rel => exact ⟨k + 1, by omega, by omega, by go_num, _, rfl⟩
        case measure => simp [intOf]; omega
      · clear hcell
        go_wp2
        go_ret
        exact ⟨rfl, x, rfl⟩
    · clear hcell
      go_wp2
      go_ret
      exact ⟨rfl, x, rfl⟩
end Go.Proofs.YtopplnfjdgoaaaaDoor
