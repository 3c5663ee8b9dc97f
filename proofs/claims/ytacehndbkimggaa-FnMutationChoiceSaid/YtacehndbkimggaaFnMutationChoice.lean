/- The walk of the law FnMutationChoice. No condition but those of its argument. -/
import Derived.Test.YtacehndbkimggaaCur2
import Derived.Test.YtacehndbkimggaaChoiceP
import Derived.Test.YtacehndbkimggaaAllRep
import Derived.Test.YtacehndbkimggaaDist
import Derived.WalkSpells
import Derived.WalkLawsBesides
import Derived.BigQuiet
import Derived.Deep.QuietTactic
import Derived.Deep.RegionHeld3
namespace Go.Proofs.Ytacehndbkimggaa.FnMutationChoice
open Go.RowKit
set_option maxHeartbeats 400000 in
set_option maxRecDepth 100000 in
theorem walk (v0 : Value) (l0 : List UInt8) (w : World) (hA0 : SlB w w.heap.size v0 l0) :
    Calls Try.prog 9 #[v0] w fun e w' => e = .returned (.bool true) ∧ Below w.heap.size w w' := by
  have H := Lib.hid hA0
  by_cases hbig : 1048576 < (l0.length : Int)
  · have hd : decide (1048576 < (l0.length : Int)) = true := decide_eq_true hbig
    clear hA0
    go_enter Try.func9, Try.ntmps9
    go_wp2_with (go_at_call 26; refine (big_any _ l0 _ _ H.out).mono ?_; rintro e w1 ⟨rfl, rfl⟩)
    go_ret
    exact ⟨rfl, Below.refl _ _⟩
  · have hd : decide (1048576 < (l0.length : Int)) = false := decide_eq_false hbig
    have hl : l0.length ≤ 1048576 := by omega
    clear hA0
    have HA0 : ∀ (B : Nat) (w' : World), SlB w' B v0 l0 → Calls Try.prog 28 #[v0, .int .i64 0] w' fun e w'' => e = .returned (.int .i64 (atN l0 0)) ∧ w' = w'' := fun B w' h => at_any v0 l0 0 B w' h hl (by omega)
    have HA1 : ∀ (B : Nat) (w' : World), SlB w' B v0 l0 → Calls Try.prog 28 #[v0, .int .i64 1] w' fun e w'' => e = .returned (.int .i64 (atN l0 1)) ∧ w' = w'' := fun B w' h => at_any v0 l0 1 B w' h hl (by omega)
    have HA2 : ∀ (B : Nat) (w' : World), SlB w' B v0 l0 → Calls Try.prog 28 #[v0, .int .i64 2] w' fun e w'' => e = .returned (.int .i64 (atN l0 2)) ∧ w' = w'' := fun B w' h => at_any v0 l0 2 B w' h hl (by omega)
    have hb0 := atN_bd l0 0
    have hb2 := atN_bd l0 2
    generalize atN l0 0 = a0 at HA0 hb0
    generalize atN l0 1 = a1 at HA1
    generalize atN l0 2 = a2 at HA2 hb2
    have HA0 := Lib.hid HA0
    have HA1 := Lib.hid HA1
    have HA2 := Lib.hid HA2
    have hmod := Lib.hid (Int.tmod_eq_emod_of_nonneg (b := 5) hb0.1)
    go_enter Try.func9, Try.ntmps9
    go_wp2_with (go_at_call 26; refine (big_any _ l0 _ _ H.out).mono ?_; rintro e w1 ⟨rfl, rfl⟩)
    refine (drawHex_any _ l0 _ H.out hl).mono ?_
    rintro e w1 ⟨u, xs, rfl, hx, hown, hb1⟩
    have H1 := Lib.hid (H.out.below hb1)
    have U1 := Lib.hid hown
    have B1 := Lib.hid hb1
    have hsz1 := hb1.size
    obtain ⟨A2, c2, rfl, hc2, hm2, _⟩ := own_slice2 hown
    unfold maxLen at hm2
    clear hown hb1
    have HMO := Lib.hid (mutOk_mOf xs a1 (by omega))
    have HM : ∀ w' : World, Calls Try.prog 21 #[.int .i64 xs.length, .int .i64 a1] w' (MutIs (mOf xs.length a1) w') := fun w' => implMutOf_any _ _ w' (by omega)
    have HK := mOf_ok xs.length a1
    generalize mOf xs.length a1 = m at HM HK HMO
    have HM := Lib.hid HM
    have HK := Lib.hid HK
    go_wp2_with fail
    refine (HA0.out _ _ H1.out).mono ?_
    rintro e w9 ⟨rfl, rfl⟩
    go_wp2_with fail
    refine (HA1.out _ _ H1.out).mono ?_
    rintro e w9 ⟨rfl, rfl⟩
    go_wp2_with fail
    refine (HM.out _).mono ?_
    rintro e w2 ⟨rfl, hb⟩
    have hsz2 := hb.size
    have hb := Lib.hid hb
    go_wp2_with fail
    refine (implApply_any _ xs m w1.heap.size _ ((own_u8 U1.out).below (hb.out.alloc hsz2 _)) (by simp; omega) (by omega) HK.out).mono ?_
    rintro e w3 ⟨v3, rfl, own3, hb3⟩
    rw [HMO.out]
    have hb3 := Lib.hid ((hb.out.alloc hsz2 _).trans (hb3.mono (by simp; omega)))
    have hsz3 := hb3.out.size
    clear own3
    have H3 := Lib.hid (H1.out.below (hb3.out.mono (by omega)))
    go_wp2_with fail
    refine (HA2.out _ _ H3.out).mono ?_
    rintro e w9 ⟨rfl, rfl⟩
    go_wp2_with fail
    have HS : ∀ w' : World, SlB w' w1.heap.size (.slice A2 xs.length c2) xs → w1.heap.size ≤ w'.heap.size → Calls Try.prog 22 #[.slice A2 xs.length c2, .int .i64 a2, .int .i64 (a0 % 5)] w' (Fresh w' 5 1 (mbL xs a2 (a0 % 5)).length (u8s (mbL xs a2 (a0 % 5)))) := fun w' h hB => specMutB_any _ xs a2 (a0 % 5) _ w' h hB (by omega)
    have HI : ∀ w' : World, SlB w' w1.heap.size (.slice A2 xs.length c2) xs → w1.heap.size ≤ w'.heap.size → Calls Try.prog 23 #[.slice A2 xs.length c2, .int .i64 a2, .int .i64 (a0 % 5)] w' (Fresh w' 5 1 (mbL xs a2 (a0 % 5)).length (u8s (mbL xs a2 (a0 % 5)))) := fun w' h hB => implMutB_any _ xs a2 (a0 % 5) _ w' h hB (by omega)
    have hLL := mbL_len2 xs a2 (a0 % 5)
    have HL := LD_mbL xs xs a2 (a0 % 5) (by omega)
    rw [(LD_zero xs xs).2 rfl] at HL
    generalize mbL xs a2 (a0 % 5) = ys at HS HI hLL HL
    have hHS := Lib.hid HS
    have hHI := Lib.hid HI
    clear HS HI
    have d1 : decide (((dist xs ys xs.length ys.length : Nat) : Int) ≤ a0 % 5) = true := decide_eq_true (by unfold LD at HL; omega)
    refine (hHI.out _ ((own_u8 U1.out).below hb3.out) hsz3).mono ?_
    rintro e w4 ⟨v5, rfl, own5, hb4⟩
    have hsz4 := hb4.size
    have X4 := Lib.hid (own_u8 own5)
    have U4 := Lib.hid (((own_u8 U1.out).below hb3.out).below (hb4.mono hsz3))
    have L4 := Lib.hid (H3.out.below (hb4.mono (by omega)))
    have B4 := Lib.hid ((B1.out.trans (hb3.out.mono hsz1)).trans (hb4.mono (by omega)))
    clear own5 hb4
    go_wp2_with fail
    refine (specDist_any _ _ xs ys w4.heap.size w4 (U4.out.more (by omega)) X4.out (Nat.le_refl _) (by omega) (by omega)).mono ?_
    rintro e w5 ⟨rfl, hb5⟩
    have hsz5 := hb5.size
    have U5 := Lib.hid (U4.out.below (hb5.mono (by omega)))
    have X5 := Lib.hid (X4.out.below hb5)
    have L5 := Lib.hid (L4.out.below (hb5.mono (by omega)))
    have B5 := Lib.hid (below_step hb5 B4.out)
    clear hb5
    go_wp2_with fail
    refine (HA2.out _ _ L5.out).mono ?_
    rintro e w9 ⟨rfl, rfl⟩
    go_wp2_with fail
    refine (hHS.out _ U5.out (by omega)).mono ?_
    rintro e w6 ⟨v7, rfl, own7, hb6⟩
    have X6 := Lib.hid (X5.out.below (hb6.mono (by omega)))
    have U6 := Lib.hid (U5.out.below (hb6.mono (by omega)))
    have Y6 := Lib.hid (own_u8 own7)
    have B6 := Lib.hid (below_step hb6 B5.out)
    clear own7 hb6
    go_wp2_with fail
    refine (sameBytes_any _ _ ys ys _ _ _ X6.out Y6.out).mono ?_
    rintro e w7 ⟨rfl, n, rfl⟩
    have hyy : (ys == ys) = true := by simp
    go_wp2_with fail
    refine (implAllReplacements_any _ xs _ _ (Sl.drewN U6.out n) (by omega)).mono ?_
    rintro e w8 ⟨rfl, rfl⟩
    go_wp2_with fail
    go_ret
    exact ⟨rfl, below_drewN B6.out _⟩
end Go.Proofs.Ytacehndbkimggaa.FnMutationChoice
