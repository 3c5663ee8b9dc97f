/- The walks of InvertMutation, spec and impl. Conditions: the slice reads as a list of at most 2^20 bytes, the mutation's numbers are ints. -/
import Derived.Test.YtopplnfjdgoaaaaDoorMutApply
import Derived.Test.YtopplnfjdgoaaaaDoorMutApplyI
import Derived.Test.YtopplnfjdgoaaaaDoorByte
import Derived.WalkSpells
import Derived.WalkLawsBesides
import Derived.Deep.RegionHeld3
import Derived.BigQuiet
import Derived.Deep.QuietTactic
namespace Go.Proofs.YtopplnfjdgoaaaaDoor
open Go.RowKit
/-- The byte at a place, 0 outside. -/
def byteAt (l : List UInt8) (k : Nat) : Int := ((l[k]?.getD 0).toNat : Int)
def invM (l : List UInt8) (m : Muta) : Muta :=
  if mutOk l m then (if m.kind = 1 then ⟨1, m.pos, byteAt l m.pos.toNat⟩ else if m.kind = 2 then ⟨3, m.pos, 0⟩ else ⟨2, m.pos, byteAt l m.pos.toNat⟩) else ⟨0, 0, 0⟩
theorem byteAt_lt {l : List UInt8} {k : Nat} (h : k < l.length) : byteAt l k = (l[k].toNat : Int) := by
  simp [byteAt, List.getElem?_eq_getElem h]

set_option maxHeartbeats 2000000 in
set_option maxRecDepth 100000 in
theorem implInvert_any (v : Value) (l : List UInt8) (m : Muta) (B : Nat) (w : World) (h : SlB w B v l) (hB : B ≤ w.heap.size) (hl : l.length ≤ 1048576) (hm : m.ok) :
    Calls Tryd.prog 16 #[v, mutV m] w fun e w' => e = .returned (.tuple #[mutV (invM l m), .bool (mutOk l m)]) ∧ Below w.heap.size w w' := by
  have H0 := Lib.hid h
  obtain ⟨A, c, rfl, hc, hcm, hcell⟩ := h.open_
  unfold maxLen at hcm
  clear h
  have HM := Lib.hid hm
  obtain ⟨kind, pos, byte⟩ := m
  cases hok : mutOk l ⟨kind, pos, byte⟩
  · rw [← hok]
    have HO := Lib.hid hok
    have HI := Lib.hid (show invM l ⟨kind, pos, byte⟩ = ⟨0, 0, 0⟩ by unfold invM; rw [hok]; rfl)
    clear hok hcell hm
    show Calls Tryd.prog 16 #[_, .agg #[.int .i64 kind, .int .i64 pos, .int .i64 byte]] w _
    go_enter Tryd.func16, Tryd.ntmps16
    go_wp2_with fail
    refine (implApply_any _ l ⟨kind, pos, byte⟩ _ _ (SlB.below H0.out (by repeat (first | exact Below.refl _ _ | assumption | refine Below.alloc ?_ (by first | omega | (simp <;> omega)) _ | refine Below.setCell ?_ (by first | omega | (simp <;> omega)) _ | refine Below.drew ?_ | refine below_drewN ?_ _))) (by first | omega | (simp <;> omega)) (by omega) HM.out).mono ?_
    rintro e w1 ⟨v1, rfl, own1, bel1⟩
    rw [HO.out]
    have bel : Below w.heap.size w w1 := below_step bel1 (by repeat (first | exact Below.refl _ _ | assumption | refine Below.alloc ?_ (by first | omega | (simp <;> omega)) _ | refine Below.setCell ?_ (by first | omega | (simp <;> omega)) _ | refine Below.drew ?_ | refine below_drewN ?_ _))
    have k0 : w1.cell? ⟨w.heap.size, 0, none⟩ = some (.int .i64 kind) := cell_later bel1 (by simp [go_sem])
    have k1 : w1.cell? ⟨w.heap.size, 1, none⟩ = some (.int .i64 pos) := cell_later bel1 (by simp [go_sem])
    have k2 : w1.cell? ⟨w.heap.size, 2, none⟩ = some (.int .i64 byte) := cell_later bel1 (by simp [go_sem])
    have r0 : w1.cell? ⟨w.heap.size + 1, 0, none⟩ = some (.int .i64 0) := cell_later bel1 (by simp [go_sem])
    have r1 : w1.cell? ⟨w.heap.size + 1, 1, none⟩ = some (.int .i64 0) := cell_later bel1 (by simp [go_sem])
    have r2 : w1.cell? ⟨w.heap.size + 1, 2, none⟩ = some (.int .i64 0) := cell_later bel1 (by simp [go_sem])
    have z0 : w1.frozen? ⟨w.heap.size + 1, 0, none⟩ = false := (bel1.frozen (p := ⟨w.heap.size + 1, 0, none⟩) (by simp)).trans (by simp [go_sem])
    have z1 : w1.frozen? ⟨w.heap.size + 1, 1, none⟩ = false := (bel1.frozen (p := ⟨w.heap.size + 1, 1, none⟩) (by simp)).trans (by simp [go_sem])
    have z2 : w1.frozen? ⟨w.heap.size + 1, 2, none⟩ = false := (bel1.frozen (p := ⟨w.heap.size + 1, 2, none⟩) (by simp)).trans (by simp [go_sem])
    skip
    clear own1 bel1
    go_wp2
    skip
    refine bodyPost_ret (v := .tuple #[.agg #[.int .i64 0, .int .i64 0, .int .i64 0], .bool false]) (by simp [results, Tryd.results16, go_sem, r0, r1, r2]) rfl ⟨by rw [HI.out, HO.out]; rfl, ?_⟩
    exact (by repeat (first | exact Below.refl _ _ | assumption | refine Below.alloc ?_ (by first | omega | (simp <;> omega)) _ | refine Below.setCell ?_ (by first | omega | (simp <;> omega)) _ | refine Below.drew ?_ | refine below_drewN ?_ _))
  · rw [← hok]
    have hk := hok
    simp only [mutOk, Bool.and_eq_true, Bool.or_eq_true, decide_eq_true_eq] at hk
    obtain ⟨p, rfl⟩ := Int.eq_ofNat_of_zero_le (show 0 ≤ pos by omega)
    have HO := Lib.hid hok
    by_cases h1 : kind = 1
    · subst h1
      have hp : p < l.length := by omega
      obtain ⟨b, off, rfl, hbl, hcb⟩ := hcell p hp
      have HI := Lib.hid (show invM l ⟨1, p, byte⟩ = ⟨1, p, (l[p].toNat : Int)⟩ by unfold invM; rw [hok, ← byteAt_lt hp]; rfl)
      clear hok hcell hk hm
      show Calls Tryd.prog 16 #[_, .agg #[.int .i64 1, .int .i64 p, .int .i64 byte]] w _
      go_enter Tryd.func16, Tryd.ntmps16
      go_wp2_with fail
      refine (implApply_any _ l ⟨1, p, byte⟩ _ _ (SlB.below H0.out (by repeat (first | exact Below.refl _ _ | assumption | refine Below.alloc ?_ (by first | omega | (simp <;> omega)) _ | refine Below.setCell ?_ (by first | omega | (simp <;> omega)) _ | refine Below.drew ?_ | refine below_drewN ?_ _))) (by first | omega | (simp <;> omega)) (by omega) HM.out).mono ?_
      rintro e w1 ⟨v1, rfl, own1, bel1⟩
      rw [HO.out]
      have bel : Below w.heap.size w w1 := below_step bel1 (by repeat (first | exact Below.refl _ _ | assumption | refine Below.alloc ?_ (by first | omega | (simp <;> omega)) _ | refine Below.setCell ?_ (by first | omega | (simp <;> omega)) _ | refine Below.drew ?_ | refine below_drewN ?_ _))
      have k0 : w1.cell? ⟨w.heap.size, 0, none⟩ = some (.int .i64 1) := cell_later bel1 (by simp [go_sem])
      have k1 : w1.cell? ⟨w.heap.size, 1, none⟩ = some (.int .i64 p) := cell_later bel1 (by simp [go_sem])
      have k2 : w1.cell? ⟨w.heap.size, 2, none⟩ = some (.int .i64 byte) := cell_later bel1 (by simp [go_sem])
      have r0 : w1.cell? ⟨w.heap.size + 1, 0, none⟩ = some (.int .i64 0) := cell_later bel1 (by simp [go_sem])
      have r1 : w1.cell? ⟨w.heap.size + 1, 1, none⟩ = some (.int .i64 0) := cell_later bel1 (by simp [go_sem])
      have r2 : w1.cell? ⟨w.heap.size + 1, 2, none⟩ = some (.int .i64 0) := cell_later bel1 (by simp [go_sem])
      have z0 : w1.frozen? ⟨w.heap.size + 1, 0, none⟩ = false := (bel1.frozen (p := ⟨w.heap.size + 1, 0, none⟩) (by simp)).trans (by simp [go_sem])
      have z1 : w1.frozen? ⟨w.heap.size + 1, 1, none⟩ = false := (bel1.frozen (p := ⟨w.heap.size + 1, 1, none⟩) (by simp)).trans (by simp [go_sem])
      have z2 : w1.frozen? ⟨w.heap.size + 1, 2, none⟩ = false := (bel1.frozen (p := ⟨w.heap.size + 1, 2, none⟩) (by simp)).trans (by simp [go_sem])
      have c0 := cell_later bel hcb
      have hby : (l[p].toNat : Int) < 256 := by have := l[p].toNat_lt; omega
      clear own1 bel1
      go_wp2
      go_region
      go_wp2
      refine bodyPost_ret (v := .tuple #[.agg #[.int .i64 1, .int .i64 p, .int .i64 l[p].toNat], .bool true]) (by simp [results, Tryd.results16, go_sem, r0, r1, r2]) rfl ⟨by rw [HI.out, HO.out]; rfl, ?_⟩
      exact (by repeat (first | exact Below.refl _ _ | assumption | refine Below.alloc ?_ (by first | omega | (simp <;> omega)) _ | refine Below.setCell ?_ (by first | omega | (simp <;> omega)) _ | refine Below.drew ?_ | refine below_drewN ?_ _))
    · by_cases h2 : kind = 2
      · subst h2
        have HI := Lib.hid (show invM l ⟨2, p, byte⟩ = ⟨3, p, 0⟩ by unfold invM; rw [hok]; rfl)
        clear hok hcell hk hm
        show Calls Tryd.prog 16 #[_, .agg #[.int .i64 2, .int .i64 p, .int .i64 byte]] w _
        go_enter Tryd.func16, Tryd.ntmps16
        go_wp2_with fail
        refine (implApply_any _ l ⟨2, p, byte⟩ _ _ (SlB.below H0.out (by repeat (first | exact Below.refl _ _ | assumption | refine Below.alloc ?_ (by first | omega | (simp <;> omega)) _ | refine Below.setCell ?_ (by first | omega | (simp <;> omega)) _ | refine Below.drew ?_ | refine below_drewN ?_ _))) (by first | omega | (simp <;> omega)) (by omega) HM.out).mono ?_
        rintro e w1 ⟨v1, rfl, own1, bel1⟩
        rw [HO.out]
        have bel : Below w.heap.size w w1 := below_step bel1 (by repeat (first | exact Below.refl _ _ | assumption | refine Below.alloc ?_ (by first | omega | (simp <;> omega)) _ | refine Below.setCell ?_ (by first | omega | (simp <;> omega)) _ | refine Below.drew ?_ | refine below_drewN ?_ _))
        have k0 : w1.cell? ⟨w.heap.size, 0, none⟩ = some (.int .i64 2) := cell_later bel1 (by simp [go_sem])
        have k1 : w1.cell? ⟨w.heap.size, 1, none⟩ = some (.int .i64 p) := cell_later bel1 (by simp [go_sem])
        have k2 : w1.cell? ⟨w.heap.size, 2, none⟩ = some (.int .i64 byte) := cell_later bel1 (by simp [go_sem])
        have r0 : w1.cell? ⟨w.heap.size + 1, 0, none⟩ = some (.int .i64 0) := cell_later bel1 (by simp [go_sem])
        have r1 : w1.cell? ⟨w.heap.size + 1, 1, none⟩ = some (.int .i64 0) := cell_later bel1 (by simp [go_sem])
        have r2 : w1.cell? ⟨w.heap.size + 1, 2, none⟩ = some (.int .i64 0) := cell_later bel1 (by simp [go_sem])
        have z0 : w1.frozen? ⟨w.heap.size + 1, 0, none⟩ = false := (bel1.frozen (p := ⟨w.heap.size + 1, 0, none⟩) (by simp)).trans (by simp [go_sem])
        have z1 : w1.frozen? ⟨w.heap.size + 1, 1, none⟩ = false := (bel1.frozen (p := ⟨w.heap.size + 1, 1, none⟩) (by simp)).trans (by simp [go_sem])
        have z2 : w1.frozen? ⟨w.heap.size + 1, 2, none⟩ = false := (bel1.frozen (p := ⟨w.heap.size + 1, 2, none⟩) (by simp)).trans (by simp [go_sem])
        skip
        clear own1 bel1
        go_wp2
        skip
        refine bodyPost_ret (v := .tuple #[.agg #[.int .i64 3, .int .i64 p, .int .i64 0], .bool true]) (by simp [results, Tryd.results16, go_sem, r0, r1, r2]) rfl ⟨by rw [HI.out, HO.out]; rfl, ?_⟩
        exact (by repeat (first | exact Below.refl _ _ | assumption | refine Below.alloc ?_ (by first | omega | (simp <;> omega)) _ | refine Below.setCell ?_ (by first | omega | (simp <;> omega)) _ | refine Below.drew ?_ | refine below_drewN ?_ _))
      · obtain rfl : kind = 3 := by omega
        have hp : p < l.length := by omega
        obtain ⟨b, off, rfl, hbl, hcb⟩ := hcell p hp
        have HI := Lib.hid (show invM l ⟨3, p, byte⟩ = ⟨2, p, (l[p].toNat : Int)⟩ by unfold invM; rw [hok, ← byteAt_lt hp]; rfl)
        clear hok hcell hk hm
        show Calls Tryd.prog 16 #[_, .agg #[.int .i64 3, .int .i64 p, .int .i64 byte]] w _
        go_enter Tryd.func16, Tryd.ntmps16
        go_wp2_with fail
        refine (implApply_any _ l ⟨3, p, byte⟩ _ _ (SlB.below H0.out (by repeat (first | exact Below.refl _ _ | assumption | refine Below.alloc ?_ (by first | omega | (simp <;> omega)) _ | refine Below.setCell ?_ (by first | omega | (simp <;> omega)) _ | refine Below.drew ?_ | refine below_drewN ?_ _))) (by first | omega | (simp <;> omega)) (by omega) HM.out).mono ?_
        rintro e w1 ⟨v1, rfl, own1, bel1⟩
        rw [HO.out]
        have bel : Below w.heap.size w w1 := below_step bel1 (by repeat (first | exact Below.refl _ _ | assumption | refine Below.alloc ?_ (by first | omega | (simp <;> omega)) _ | refine Below.setCell ?_ (by first | omega | (simp <;> omega)) _ | refine Below.drew ?_ | refine below_drewN ?_ _))
        have k0 : w1.cell? ⟨w.heap.size, 0, none⟩ = some (.int .i64 3) := cell_later bel1 (by simp [go_sem])
        have k1 : w1.cell? ⟨w.heap.size, 1, none⟩ = some (.int .i64 p) := cell_later bel1 (by simp [go_sem])
        have k2 : w1.cell? ⟨w.heap.size, 2, none⟩ = some (.int .i64 byte) := cell_later bel1 (by simp [go_sem])
        have r0 : w1.cell? ⟨w.heap.size + 1, 0, none⟩ = some (.int .i64 0) := cell_later bel1 (by simp [go_sem])
        have r1 : w1.cell? ⟨w.heap.size + 1, 1, none⟩ = some (.int .i64 0) := cell_later bel1 (by simp [go_sem])
        have r2 : w1.cell? ⟨w.heap.size + 1, 2, none⟩ = some (.int .i64 0) := cell_later bel1 (by simp [go_sem])
        have z0 : w1.frozen? ⟨w.heap.size + 1, 0, none⟩ = false := (bel1.frozen (p := ⟨w.heap.size + 1, 0, none⟩) (by simp)).trans (by simp [go_sem])
        have z1 : w1.frozen? ⟨w.heap.size + 1, 1, none⟩ = false := (bel1.frozen (p := ⟨w.heap.size + 1, 1, none⟩) (by simp)).trans (by simp [go_sem])
        have z2 : w1.frozen? ⟨w.heap.size + 1, 2, none⟩ = false := (bel1.frozen (p := ⟨w.heap.size + 1, 2, none⟩) (by simp)).trans (by simp [go_sem])
        have c0 := cell_later bel hcb
        have hby : (l[p].toNat : Int) < 256 := by have := l[p].toNat_lt; omega
        clear own1 bel1
        go_wp2
        go_region
        go_wp2
        refine bodyPost_ret (v := .tuple #[.agg #[.int .i64 2, .int .i64 p, .int .i64 l[p].toNat], .bool true]) (by simp [results, Tryd.results16, go_sem, r0, r1, r2]) rfl ⟨by rw [HI.out, HO.out]; rfl, ?_⟩
        exact (by repeat (first | exact Below.refl _ _ | assumption | refine Below.alloc ?_ (by first | omega | (simp <;> omega)) _ | refine Below.setCell ?_ (by first | omega | (simp <;> omega)) _ | refine Below.drew ?_ | refine below_drewN ?_ _))
end Go.Proofs.YtopplnfjdgoaaaaDoor
