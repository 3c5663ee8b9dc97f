/- The walk of the law FnDistances. No condition but those of its argument. -/
import Derived.Test.YtacehndbkimggaaCur2
import Derived.Test.YtacehndbkimggaaChoiceP
import Derived.Test.YtacehndbkimggaaDist
import Derived.Test.YtacehndbkimggaaDistI
import Derived.WalkSpells
import Derived.WalkLawsBesides
import Derived.BigQuiet
import Derived.Deep.QuietTactic
import Derived.Deep.RegionHeld3
namespace Go.Proofs.Ytacehndbkimggaa
open Go.RowKit
theorem slb_empty (w : World) (B : Nat) (A : Option Addr) (c : Nat) (hc : c ≤ maxLen) : SlB w B (.slice A 0 c) [] :=
  ⟨by simp [u8s], A, c, rfl, Nat.zero_le _, hc, fun h => absurd h (by simp)⟩
def DistIs (v u : Value) (a b : List UInt8) (n : Int) : Prop :=
  ∀ (B : Nat) (w : World), SlB w B v a → SlB w B u b → B ≤ w.heap.size → Calls Try.prog 25 #[v, u] w fun e w' => e = .returned (.int .i64 n) ∧ Below w.heap.size w w'
theorem distIs (v u : Value) (a b : List UInt8) (n : Int) (h : ((LD a b : Nat) : Int) = n) (ha : a.length ≤ 2097152) (hb : b.length ≤ 2097152) : DistIs v u a b n := by
  intro B w h1 h2 hB
  have := implDist_any v u a b B w h1 h2 hB ha hb
  unfold LD at h
  rw [h] at this; exact this
end Go.Proofs.Ytacehndbkimggaa
namespace Go.Proofs.Ytacehndbkimggaa.FnDistances
open Go.RowKit
set_option maxHeartbeats 2000000 in
set_option maxRecDepth 100000 in
theorem walk (v0 : Value) (l0 : List UInt8) (w : World) (hA0 : SlB w w.heap.size v0 l0) :
    Calls Try.prog 8 #[v0] w fun e w' => e = .returned (.bool true) ∧ Below w.heap.size w w' := by
  have H := Lib.hid hA0
  by_cases hbig : 1048576 < (l0.length : Int)
  · have hd : decide (1048576 < (l0.length : Int)) = true := decide_eq_true hbig
    clear hA0
    go_enter Try.func8, Try.ntmps8
    go_wp2_with (go_at_call 26; refine (big_any _ l0 _ _ H.out).mono ?_; rintro e w1 ⟨rfl, rfl⟩)
    go_ret
    exact ⟨rfl, Below.refl _ _⟩
  · have hd : decide (1048576 < (l0.length : Int)) = false := decide_eq_false hbig
    have hl : l0.length ≤ 1048576 := by omega
    clear hA0
    have HA0 : ∀ (B : Nat) (w' : World), SlB w' B v0 l0 → Calls Try.prog 28 #[v0, .int .i64 0] w' fun e w'' => e = .returned (.int .i64 (atN l0 0)) ∧ w' = w'' := fun B w' h => at_any v0 l0 0 B w' h hl (by omega)
    generalize atN l0 0 = a0 at HA0
    have HA0 := Lib.hid HA0
    go_enter Try.func8, Try.ntmps8
    go_wp2_with (go_at_call 26; refine (big_any _ l0 _ _ H.out).mono ?_; rintro e w1 ⟨rfl, rfl⟩)
    refine (drawDist_any _ l0 _ H.out hl).mono ?_
    rintro e w1 ⟨u, v, xs, ys, rfl, hx, hy, hu, hv, hb1⟩
    have H1 := Lib.hid (H.out.below hb1)
    have B1 := Lib.hid hb1
    have hsz1 := hb1.size
    have U1 := Lib.hid hu
    have V1 := Lib.hid hv
    obtain ⟨A2, c2, rfl, hc2, hm2, _⟩ := hu.open_
    obtain ⟨A3, c3, rfl, hc3, hm3, _⟩ := hv.open_
    unfold maxLen at hm2 hm3
    clear hb1 hu hv
    have hLz := LD_zero xs ys
    have hLs := LD_symm ys xs
    have hLl := LD_len xs ys
    have hLm := LD_most xs ys
    have D1 := Lib.hid (distIs (.slice A2 xs.length c2) (.slice A3 ys.length c3) xs ys (LD xs ys : Nat) rfl (by omega) (by omega))
    have D2 := Lib.hid (distIs (.slice A3 ys.length c3) (.slice A2 xs.length c2) ys xs (LD xs ys : Nat) (by rw [hLs]) (by omega) (by omega))
    have D3 := Lib.hid (fun (g : Nat) => distIs (.slice A2 xs.length c2) (.slice (some ⟨g, 0, none⟩) 0 0) xs [] xs.length (by rw [LD_nil]) (by omega) (by simp))
    have hLC := LD_mbL xs ys a0 2 (by omega)
    have hLL := mbL_len2 ys a0 2
    have HS := Lib.hid (fun (w' : World) (h : SlB w' w1.heap.size (.slice A3 ys.length c3) ys) (hB : w1.heap.size ≤ w'.heap.size) => specMutB_any _ ys a0 2 _ w' h hB (by omega))
    generalize mbL ys a0 2 = cs at HS hLL hLC
    have D4 := Lib.hid (fun (v5 : Value) => distIs (.slice A2 xs.length c2) v5 xs cs (LD xs cs : Nat) rfl (by omega) (by omega))
    obtain ⟨z, hz⟩ : ∃ z, (xs == ys) = z := ⟨_, rfl⟩
    have hz2 : (((LD xs ys : Nat) : Int) == 0) = z := by
      rw [← hz, Bool.eq_iff_iff, beq_iff_eq, beq_iff_eq, ← hLz]; omega
    have HQ := Lib.hid (fun (w' : World) (B B' : Nat) (h : SlB w' B (.slice A2 xs.length c2) xs) (h' : SlB w' B' (.slice A3 ys.length c3) ys) => sameBytes_any _ _ xs ys B B' w' h h')
    rw [hz] at HQ
    generalize LD xs cs = C at D4 hLC
    generalize LD xs ys = N at D1 D2 hz2 hLC hLl hLm
    clear hLz hLs hz
    have d1 : decide ((C : Int) ≤ (N : Int) + 2) = true := decide_eq_true (by omega)
    have d2 : decide ((N : Int) ≤ max (xs.length : Int) (ys.length : Int)) = true := decide_eq_true (by omega)
    have d3 : decide (max ((xs.length : Int) - ys.length) ((ys.length : Int) - xs.length) ≤ (N : Int)) = true := decide_eq_true (by omega)
    have hzz : (z == z) = true := by simp
    have hNN : ((N : Int) == (N : Int)) = true := by simp
    have hN : N ≤ 100 := by omega
    go_wp2_with fail
    refine (HA0.out _ _ H1.out).mono ?_
    rintro e w9 ⟨rfl, rfl⟩
    go_wp2_with fail
    refine (HS.out _ V1.out (Nat.le_refl _)).mono ?_
    rintro e w2 ⟨v5, rfl, own5, hb2⟩
    have hsz2 := hb2.size
    have C2 := Lib.hid (own_u8 own5)
    have U2 := Lib.hid (U1.out.below hb2)
    have V2 := Lib.hid (V1.out.below hb2)
    have B2 := Lib.hid (below_step hb2 B1.out)
    clear own5 hb2
    go_wp2_with fail
    refine (D1.out _ _ U2.out V2.out hsz2).mono ?_
    rintro e w3 ⟨rfl, hb3⟩
    have hsz3 := hb3.size
    have C3 := Lib.hid (C2.out.below hb3)
    have U3 := Lib.hid (U2.out.below (hb3.mono hsz2))
    have V3 := Lib.hid (V2.out.below (hb3.mono hsz2))
    have B3 := Lib.hid (below_step hb3 B2.out)
    clear hb3
    go_wp2_with fail
    refine (D2.out _ _ V3.out U3.out (by omega)).mono ?_
    rintro e w4 ⟨rfl, hb4⟩
    have hsz4 := hb4.size
    have C4 := Lib.hid (C3.out.below (hb4.mono hsz3))
    have U4 := Lib.hid (U3.out.below (hb4.mono (by omega)))
    have V4 := Lib.hid (V3.out.below (hb4.mono (by omega)))
    have B4 := Lib.hid (below_step hb4 B3.out)
    clear hb4
    go_wp2_with fail
    refine (HQ.out _ _ _ U4.out V4.out).mono ?_
    rintro e w5 ⟨rfl, n, rfl⟩
    have C5 := Lib.hid (Sl.drewN C4.out n)
    have U5 := Lib.hid (Sl.drewN U4.out n)
    have B5 := Lib.hid (below_drewN B4.out n)
    go_wp2_with fail
    have hszn : (w4.drewN n).heap.size = w4.heap.size := rfl
    refine (D4.out _ w2.heap.size _ (SlB.more U5.out hsz2) C5.out (by omega)).mono ?_
    rintro e w6 ⟨rfl, hb6⟩
    have hsz6 : w4.heap.size ≤ w6.heap.size := hb6.size
    have U6 := Lib.hid (SlB.below (w' := w6) U5.out (hb6.mono (by omega)))
    have B6 := Lib.hid (below_step hb6 B5.out)
    clear hb6 hszn
    go_wp2_with fail
    refine (D3.out _ w6.heap.size _ (((SlB.more U6.out (by omega)) : SlB w6 w6.heap.size _ xs).below ((Below.refl _ _).alloc (Nat.le_refl _) _)) (slb_empty _ _ _ _ (Nat.zero_le _)) (by simp)).mono ?_
    rintro e w7 ⟨rfl, hb7⟩
    have hsz7 := hb7.size
    have B7 := Lib.hid (below_step hb7 (B6.out.alloc B6.out.size _))
    clear hb7
    go_wp2_with (go_at_call 30; refine (specMax_any _ _ _).mono ?_; rintro e w9 ⟨rfl, rfl⟩)
    go_ret
    exact ⟨rfl, B7.out⟩
end Go.Proofs.Ytacehndbkimggaa.FnDistances
