/- The walk of the law FnMutations. No condition but those of its argument. -/
import Derived.Test.YtopplnfjdgoaaaaDoorDrawM2
import Derived.Test.YtopplnfjdgoaaaaDoorFmtD
import Derived.Test.YtopplnfjdgoaaaaDoorDist
import Derived.WalkSpells
import Derived.WalkLawsBesides
import Derived.Deep.RegionHeld3
import Derived.IntWalk
namespace Go.Proofs.YtopplnfjdgoaaaaDoor.FnMutations
open Go.RowKit
theorem slb_slice {w : World} {B : Nat} {v : Value} {l : List UInt8} (h : SlB w B v l) : ∃ A c, v = .slice A l.length c := by
  obtain ⟨A, c, rfl, _⟩ := h.open_
  exact ⟨A, c, rfl⟩
set_option maxHeartbeats 1000000 in
set_option maxRecDepth 100000 in
theorem walk (v0 : Value) (l0 : List UInt8) (w : World) (hA0 : SlB w w.heap.size v0 l0) (ht : Tab w) :
    Calls Tryd.prog 5 #[v0] w fun e w' => e = .returned (.bool true) ∧ Below w.heap.size w w' := by
  have H := Lib.hid hA0
  have HT := Lib.hid ht
  clear ht
  by_cases hbig : 1048576 < (l0.length : Int)
  · have hd : decide (1048576 < (l0.length : Int)) = true := decide_eq_true hbig
    clear hA0
    go_enter Tryd.func5, Tryd.ntmps5
    go_wp2_with (go_at_call 13; refine (big_any _ l0 _ _ H.out).mono ?_; rintro e w1 ⟨rfl, rfl⟩)
    go_ret
    exact ⟨rfl, Below.refl _ _⟩
  · have hd : decide (1048576 < (l0.length : Int)) = false := decide_eq_false hbig
    have hl : l0.length ≤ 1048576 := by omega
    clear hA0 hbig
    go_enter Tryd.func5, Tryd.ntmps5
    go_wp2_with (go_at_call 13; refine (big_any _ l0 _ _ H.out).mono ?_; rintro e w1 ⟨rfl, rfl⟩)
    refine (drawApply_any v0 l0 _ H.out hl).mono ?_
    rintro e w1 ⟨u, xs, ⟨k, p, y⟩, rfl, hx, hu, hm, hb1⟩
    have hsz1 := hb1.size
    obtain ⟨A, c, rfl⟩ := slb_slice hu
    have HU1 := Lib.hid hu
    have HM := Lib.hid hm
    have HB1 := Lib.hid hb1
    clear hu hm hb1 H
    unfold mutV
    have a0 : Below w1.heap.size w1 (w1.alloc (.cells #[.int .i64 k, .int .i64 p, .int .i64 y] 25)) := (Below.refl _ _).alloc (Nat.le_refl _) _
    have k0 : (w1.alloc (.cells #[.int .i64 k, .int .i64 p, .int .i64 y] 25)).cell? ⟨w1.heap.size, 0, none⟩ = some (.int .i64 k) := by simp [go_sem]
    have k1 : (w1.alloc (.cells #[.int .i64 k, .int .i64 p, .int .i64 y] 25)).cell? ⟨w1.heap.size, 1, none⟩ = some (.int .i64 p) := by simp [go_sem]
    have k2 : (w1.alloc (.cells #[.int .i64 k, .int .i64 p, .int .i64 y] 25)).cell? ⟨w1.heap.size, 2, none⟩ = some (.int .i64 y) := by simp [go_sem]
    have A0 := Lib.hid a0
    have A1 := Lib.hid (a0.mono (by omega) |> HB1.out.trans)
    have HU2 := Lib.hid (SlB.below HU1.out a0)
    have zs : (w1.alloc (.cells #[.int .i64 k, .int .i64 p, .int .i64 y] 25)).heap.size = w1.heap.size + 1 := by simp
    have zs' := Lib.hid zs
    clear a0 zs
    have HIA : ∀ W : World, SlB W w1.heap.size (.slice A xs.length c) xs → w1.heap.size ≤ W.heap.size → Calls Tryd.prog 15 #[.slice A xs.length c, .agg #[.int .i64 k, .int .i64 p, .int .i64 y]] W (FreshB W (mutL xs ⟨k, p, y⟩) (mutOk xs ⟨k, p, y⟩)) := fun W h hB => implApply_any _ xs ⟨k, p, y⟩ _ W h hB (by omega) HM.out
    have HSA : ∀ W : World, SlB W w1.heap.size (.slice A xs.length c) xs → w1.heap.size ≤ W.heap.size → Calls Tryd.prog 17 #[.slice A xs.length c, .agg #[.int .i64 k, .int .i64 p, .int .i64 y]] W (FreshB W (mutL xs ⟨k, p, y⟩) (mutOk xs ⟨k, p, y⟩)) := fun W h hB => specApply_any _ xs ⟨k, p, y⟩ _ W h hB (by omega) HM.out
    have HIN : ∀ W : World, SlB W w1.heap.size (.slice A xs.length c) xs → w1.heap.size ≤ W.heap.size → Calls Tryd.prog 16 #[.slice A xs.length c, .agg #[.int .i64 k, .int .i64 p, .int .i64 y]] W fun e w' => e = .returned (.tuple #[mutV (invM xs ⟨k, p, y⟩), .bool (mutOk xs ⟨k, p, y⟩)]) ∧ Below W.heap.size W w' := fun W h hB => implInvert_any _ xs ⟨k, p, y⟩ _ W h hB (by omega) HM.out
    have hok2 := invM_ok xs ⟨k, p, y⟩ HM.out
    cases hok : mutOk xs ⟨k, p, y⟩
    · rw [(mut_none xs ⟨k, p, y⟩ hok).1] at HIA HSA
      rw [hok] at HIA HSA HIN
      generalize invM xs ⟨k, p, y⟩ = im at HIN hok2
      obtain ⟨ik, ip, iy⟩ := im
      have HIA := Lib.hid HIA
      have HSA := Lib.hid HSA
      have HIN := Lib.hid HIN
      clear hok hok2
      go_wp2_with fail
      have q0 := Lib.hid k0
      have q1 := Lib.hid k1
      have q2 := Lib.hid k2
      generalize (w1.alloc (.cells #[.int .i64 k, .int .i64 p, .int .i64 y] 25)) = W1 at *
      clear k0 k1 k2
      refine (HIA.out _ HU2.out (by have := zs'.out; omega)).mono ?_
      rintro e w2 ⟨v2, rfl, own2, hb2⟩
      have k0 := cell_later hb2 q0.out
      have k1 := cell_later hb2 q1.out
      have k2 := cell_later hb2 q2.out
      have hs2 := hb2.size
      have A2 := Lib.hid (A1.out.trans (hb2.mono (by have := A1.out.size; omega)))
      have U2 := Lib.hid (HU2.out.below (hb2.mono (by have := zs'.out; omega)))
      have O2 := Lib.hid (own_u8 own2)
      have hz2 : w1.heap.size + 1 ≤ w2.heap.size := by have := zs'.out; omega
      clear own2 hb2 HU2 A1
      go_wp2_with fail
      refine (HIN.out _ U2.out (by omega)).mono ?_
      rintro e w3 ⟨rfl, hb3⟩
      have k0 := cell_later hb3 k0
      have k1 := cell_later hb3 k1
      have k2 := cell_later hb3 k2
      have hs3 := hb3.size
      have a3 : Below w3.heap.size w3 (w3.alloc (.cells #[.int .i64 ik, .int .i64 ip, .int .i64 iy] 25)) := (Below.refl _ _).alloc (Nat.le_refl _) _
      have A3 := Lib.hid ((A2.out.trans (hb3.mono (by have := A2.out.size; omega))).alloc (by have := A2.out.size; omega) (.cells #[.int .i64 ik, .int .i64 ip, .int .i64 iy] 25))
      have hb3' := hb3.alloc hs3 (.cells #[.int .i64 ik, .int .i64 ip, .int .i64 iy] 25)
      have U3 := Lib.hid (U2.out.below (hb3'.mono (by omega)))
      have O3 := Lib.hid (O2.out.below hb3')
      have k0 := cell_later a3 k0
      have k1 := cell_later a3 k1
      have k2 := cell_later a3 k2
      have hz3 : w1.heap.size ≤ (w3.alloc (.cells #[.int .i64 ik, .int .i64 ip, .int .i64 iy] 25)).heap.size := by simp; omega
      clear hb3 hb3' U2 O2 A2 a3
      unfold mutV
      go_wp2_with fail
      refine (HSA.out _ U3.out hz3).mono ?_
      rintro e w4 ⟨v4, rfl, own4, hb4⟩
      have A4 := Lib.hid (A3.out.trans (hb4.mono A3.out.size))
      have U4 := Lib.hid (U3.out.below (hb4.mono hz3))
      have O4 := Lib.hid (O3.out.below (hb4.mono (by simp; omega)))
      clear own4 hb4 U3 O3 A3
      go_wp2_with fail
      refine (sameBytes_any _ _ xs xs _ _ _ O4.out U4.out).mono ?_
      rintro e w5 ⟨rfl, n, rfl⟩
      go_wp2
      go_ret
      exact ⟨ret_bool (by simp), below_drewN A4.out _⟩
    · obtain ⟨hu1, hu2, hu3, hu4, hu5⟩ := mut_undo xs ⟨k, p, y⟩ hok
      have HIB : ∀ (W : World) (B : Nat) (v : Value), SlB W B v (mutL xs ⟨k, p, y⟩) → B ≤ W.heap.size → Calls Tryd.prog 15 #[v, mutV (invM xs ⟨k, p, y⟩)] W (FreshB W xs true) := fun W B v h hB => by
        have := implApply_any v _ (invM xs ⟨k, p, y⟩) B W h hB (by omega) hok2
        rw [hu1, hu2] at this
        exact this
      have HDI : ∀ (W : World) (v u : Value), SlB W W.heap.size v xs → SlB W W.heap.size u (mutL xs ⟨k, p, y⟩) → Calls Tryd.prog 19 #[v, u] W fun e w' => e = .returned (.int .i64 (LD xs (mutL xs ⟨k, p, y⟩) : Nat)) ∧ Below W.heap.size W w' := fun W v u h h' => by
        have := specDist_any v u _ _ _ W h h' (Nat.le_refl _) (by omega) (by omega)
        unfold LD
        exact this
      rw [hok] at HIA HSA HIN
      unfold mutV at HIB
      generalize invM xs ⟨k, p, y⟩ = im at HIN hok2 HIB
      generalize mutL xs ⟨k, p, y⟩ = z at HIA HSA HIB HDI hu3 hu4 hu5
      generalize LD xs z = dn at HDI hu5
      obtain ⟨ik, ip, iy⟩ := im
      have HIA := Lib.hid HIA
      have HSA := Lib.hid HSA
      have HIN := Lib.hid HIN
      have HIB := Lib.hid HIB
      have HDI := Lib.hid HDI
      clear hok hok2 hu1 hu2
      go_wp2_with fail
      have q0 := Lib.hid k0
      have q1 := Lib.hid k1
      have q2 := Lib.hid k2
      generalize (w1.alloc (.cells #[.int .i64 k, .int .i64 p, .int .i64 y] 25)) = W1 at *
      clear k0 k1 k2
      refine (HIA.out _ HU2.out (by have := zs'.out; omega)).mono ?_
      rintro e w2 ⟨v2, rfl, own2, hb2⟩
      have k0 := cell_later hb2 q0.out
      have k1 := cell_later hb2 q1.out
      have k2 := cell_later hb2 q2.out
      have hs2 := hb2.size
      have A2 := Lib.hid (A1.out.trans (hb2.mono (by have := A1.out.size; omega)))
      have U2 := Lib.hid (HU2.out.below (hb2.mono (by have := zs'.out; omega)))
      have O2 := Lib.hid (own_u8 own2)
      have hz2 : w1.heap.size + 1 ≤ w2.heap.size := by have := zs'.out; omega
      obtain ⟨Az, cz, rfl⟩ := slb_slice O2.out
      clear own2 hb2 HU2 A1
      go_wp2_with fail
      refine (HIN.out _ U2.out (by omega)).mono ?_
      rintro e w3 ⟨rfl, hb3⟩
      have k0 := cell_later hb3 k0
      have k1 := cell_later hb3 k1
      have k2 := cell_later hb3 k2
      have hs3 := hb3.size
      have a3 : Below w3.heap.size w3 (w3.alloc (.cells #[.int .i64 ik, .int .i64 ip, .int .i64 iy] 25)) := (Below.refl _ _).alloc (Nat.le_refl _) _
      have A3 := Lib.hid ((A2.out.trans (hb3.mono (by have := A2.out.size; omega))).alloc (by have := A2.out.size; omega) (.cells #[.int .i64 ik, .int .i64 ip, .int .i64 iy] 25))
      have hb3' := hb3.alloc hs3 (.cells #[.int .i64 ik, .int .i64 ip, .int .i64 iy] 25)
      have U3 := Lib.hid (U2.out.below (hb3'.mono (by omega)))
      have O3 := Lib.hid (O2.out.below hb3')
      have k0 := cell_later a3 k0
      have k1 := cell_later a3 k1
      have k2 := cell_later a3 k2
      have i0 : (w3.alloc (.cells #[.int .i64 ik, .int .i64 ip, .int .i64 iy] 25)).cell? ⟨w3.heap.size, 0, none⟩ = some (.int .i64 ik) := by simp [go_sem]
      have i1 : (w3.alloc (.cells #[.int .i64 ik, .int .i64 ip, .int .i64 iy] 25)).cell? ⟨w3.heap.size, 1, none⟩ = some (.int .i64 ip) := by simp [go_sem]
      have i2 : (w3.alloc (.cells #[.int .i64 ik, .int .i64 ip, .int .i64 iy] 25)).cell? ⟨w3.heap.size, 2, none⟩ = some (.int .i64 iy) := by simp [go_sem]
      have hz3 : w3.heap.size + 1 ≤ (w3.alloc (.cells #[.int .i64 ik, .int .i64 ip, .int .i64 iy] 25)).heap.size := by simp
      clear hb3 hb3' U2 O2 A2 a3
      unfold mutV
      go_wp2_with fail
      have q0 := Lib.hid k0
      have q1 := Lib.hid k1
      have q2 := Lib.hid k2
      have r0 := Lib.hid i0
      have r1 := Lib.hid i1
      have r2 := Lib.hid i2
      generalize (w3.alloc (.cells #[.int .i64 ik, .int .i64 ip, .int .i64 iy] 25)) = W3 at *
      clear k0 k1 k2 i0 i1 i2
      refine (HSA.out _ U3.out (by omega)).mono ?_
      rintro e w4 ⟨v4, rfl, own4, hb4⟩
      have hz4 := hb4.size
      have A4 := Lib.hid (A3.out.trans (hb4.mono A3.out.size))
      have U4 := Lib.hid (U3.out.below (hb4.mono (by omega)))
      have O4 := Lib.hid (O3.out.below (hb4.mono (by omega)))
      have k0 := cell_later hb4 q0.out
      have k1 := cell_later hb4 q1.out
      have k2 := cell_later hb4 q2.out
      have i0 := cell_later hb4 r0.out
      have i1 := cell_later hb4 r1.out
      have i2 := cell_later hb4 r2.out
      clear own4 hb4 U3 O3 A3
      go_wp2_with fail
      refine (HIB.out _ _ _ O4.out (by omega)).mono ?_
      rintro e w5 ⟨v5, rfl, own5, hb5⟩
      have hz5 := hb5.size
      have A5 := Lib.hid (A4.out.trans (hb5.mono A4.out.size))
      have U5 := Lib.hid ((U4.out.below (hb5.mono (by omega))).more (show w1.heap.size ≤ w5.heap.size by omega))
      have O5 := Lib.hid ((O4.out.below (hb5.mono (by omega))).more (show w2.heap.size ≤ w5.heap.size by omega))
      have Y5 := Lib.hid (own_u8 own5)
      have k0 := cell_later hb5 k0
      have k1 := cell_later hb5 k1
      have k2 := cell_later hb5 k2
      obtain ⟨Ay, cy, rfl⟩ := slb_slice Y5.out
      clear own5 hb5 U4 O4 A4 i0 i1 i2
      have hxx : (xs == xs) = true := by simp
      have d1 : decide ((xs.length : Int) - 1 ≤ z.length) = true := decide_eq_true (by omega)
      have d2 : decide ((z.length : Int) ≤ xs.length + 1) = true := decide_eq_true (by omega)
      have d3 : decide ((dn : Int) ≤ 1) = true := decide_eq_true (by omega)
      have HSB : ∀ W : World, Below w5.heap.size w5 W → Calls Tryd.prog 18 #[.slice Ay xs.length cy, .slice A xs.length c] W fun e w' => e = .returned (.bool true) ∧ Below W.heap.size W w' := fun W hW => by
        refine (sameBytes_any _ _ xs xs _ _ W (Y5.out.below hW) (U5.out.below hW)).mono ?_
        rintro e w' ⟨rfl, n, rfl⟩
        exact ⟨ret_bool hxx, below_drewN (Below.refl _ _) n⟩
      have HDD : ∀ W : World, Below w5.heap.size w5 W → Calls Tryd.prog 19 #[.slice A xs.length c, .slice Az z.length cz] W fun e w' => e = .returned (.int .i64 (dn : Nat)) ∧ Below W.heap.size W w' := fun W hW => HDI.out W _ _ ((U5.out.below hW).more hW.size) ((O5.out.below hW).more hW.size)
      have HF1 : ∀ W : World, Below w5.heap.size w5 W → Calls Tryd.prog 8 #[.agg #[.int .i64 k, .int .i64 p, .int .i64 y]] W fun e w' => e = .returned (.string (mutText k (str (fmtI p)) (str (fmtI y)))) ∧ Below W.heap.size W w' := fun W hW => implFormatMutation_any k p y W HM.out.2.1 HM.out.2.2 (tab_on HT.out (A5.out.trans (hW.mono A5.out.size)))
      have HF2 : ∀ W : World, Below w5.heap.size w5 W → Calls Tryd.prog 6 #[.agg #[.int .i64 k, .int .i64 p, .int .i64 y]] W fun e w' => e = .returned (.string (mutText k (str (fmtI p)) (str (fmtI y)))) ∧ Below W.heap.size W w' := fun W hW => specFormatMutation_any k p y W HM.out.2.1 HM.out.2.2
      generalize mutText k (str (fmtI p)) (str (fmtI y)) = tx at HF1 HF2
      have HSB := Lib.hid HSB
      have HDD := Lib.hid HDD
      have HF1 := Lib.hid HF1
      have HF2 := Lib.hid HF2
      have b0 : Below w5.heap.size w5 w5.drew := (Below.refl _ _).drew
      have e1 : IntKind.i64.wrap ((xs.length : Int) - 1) = (xs.length : Int) - 1 := IntWalk.i64_in _ (by omega)
      have e2 : IntKind.i64.wrap ((xs.length : Int) + 1) = (xs.length : Int) + 1 := IntWalk.i64_in _ (by omega)
      clear hxx U5 O5 Y5
      go_wp2_with fail
      go_region_held3 (fun w9 => w9.cell? ⟨w1.heap.size, 0, none⟩ = some (.int .i64 k) ∧ w9.cell? ⟨w1.heap.size, 1, none⟩ = some (.int .i64 p) ∧ w9.cell? ⟨w1.heap.size, 2, none⟩ = some (.int .i64 y))
        (first | exact ⟨k0, k1, k2⟩ | exact ⟨cell_later bel k0, cell_later bel k1, cell_later bel k2⟩)
        (first
          | (go_at_call 18; refine (HSB.out _ b0).mono ?_; rintro e w6 ⟨rfl, bel⟩; have b1 := below_step bel b0; have k0 := cell_later bel k0; have k1 := cell_later bel k1; have k2 := cell_later bel k2)
          | (go_at_call 19; refine (HDD.out _ b1).mono ?_; rintro e w7 ⟨rfl, bel⟩; have b2 := below_step bel b1; have k0 := cell_later bel k0; have k1 := cell_later bel k1; have k2 := cell_later bel k2)
          | (go_at_call 8; refine (HF1.out _ b2).mono ?_; rintro e w8 ⟨rfl, bel⟩; have b3 := below_step bel b2; have k0 := cell_later bel k0; have k1 := cell_later bel k1; have k2 := cell_later bel k2)
          | (go_at_call 6; refine (HF2.out _ b3).mono ?_; rintro e w9 ⟨rfl, bel⟩; have b4 := below_step bel b3; have k0 := cell_later bel k0; have k1 := cell_later bel k1; have k2 := cell_later bel k2))
      all_goals
        go_wp2
        go_ret
        exact ⟨by first | rfl | (simp; done), A5.out.trans (b4.mono A5.out.size)⟩
end Go.Proofs.YtopplnfjdgoaaaaDoor.FnMutations
