/- The walk of the law FnPatterns. No condition but those of its argument. -/
import Derived.Test.YtglminmoglncpaaDrawP4
import Derived.Test.YtglminmoglncpaaPatP
import Derived.WalkSpells
import Derived.WalkLawsBesides
import Derived.Sort.AtCall
namespace Go.Proofs.Ytglminmoglncpaa.FnPatterns
open Go.RowKit
def aDots : ByteArray := ⟨#[47, 46, 46]⟩
def aDots2 : ByteArray := ⟨#[47, 46, 46, 47, 46, 46]⟩
def aHash : ByteArray := ⟨#[47, 35]⟩
theorem aDots_ok : spOk isPat aDots = true := by decide +kernel
theorem aDots2_ok : spOk isPat aDots2 = true := by decide +kernel
theorem aHash_ok : spOk isPat aHash = true := by decide +kernel
theorem tail_dots : tailT aDots = [⟨#[46, 46]⟩] := by decide +kernel
theorem tail_dots2 : tailT aDots2 = [⟨#[46, 46]⟩, ⟨#[46, 46]⟩] := by decide +kernel
theorem tail_hash : tailT aHash = [⟨#[35]⟩] := by decide +kernel
theorem spL_of (isS : ByteArray → Bool) (s : ByteArray) (h : spOk isS s = true) (hz : s.size ≠ 0) : spL isS s = tailT s := by
  unfold spL; rw [if_pos ⟨hz, h⟩]
set_option maxHeartbeats 4000000 in
set_option maxRecDepth 100000 in
theorem walk (v : Value) (l : List UInt8) (w : World) (h : SlB w w.heap.size v l) :
    Calls Try.prog 7 #[v] w fun e w' => e = .returned (.bool true) ∧ Below w.heap.size w w' := by
  obtain ⟨A0, c0, rfl, hcc⟩ := h.open_
  clear hcc
  by_cases hbig : 1048576 < (l.length : Int)
  · have HB := Lib.hid hbig
    clear hbig
    go_enter Try.func7, Try.ntmps7
    go_wp2_with fail
    refine (big_any _ l _ w h).mono ?_
    rintro e w1 ⟨rfl, rfl⟩
    rw [decide_eq_true HB.out]
    go_wp2
    go_ret
    exact ⟨rfl, Below.refl _ _⟩
  have hl : l.length ≤ 1048576 := by omega
  clear hbig
  go_enter Try.func7, Try.ntmps7
  go_wp2_with fail
  refine (big_any _ l _ w h).mono ?_
  rintro e w1 ⟨rfl, rfl⟩
  rw [decide_eq_false (show ¬ (1048576 < (l.length : Int)) by omega)]
  go_wp2_with fail
  refine (drawMatchSteps_any _ l w h hl).mono ?_
  rintro e w1 ⟨⟨p, s, P, S, rfl, hp, hs, hPl, hSl, hS1⟩, b1⟩
  have hh := h.below b1
  have HH := Lib.hid (h.below b1)
  have HB1 := Lib.hid b1
  have hsz1 := b1.size
  have okS : ∀ x ∈ S, x.size ≤ maxLen := fun x hx => by have := hS1 x hx; unfold maxLen; omega
  obtain ⟨As, cs, rfl⟩ : ∃ A c, s = .slice A S.length c := by
    obtain ⟨_, A, c, e, _⟩ := hs
    exact ⟨A, c, e⟩
  obtain ⟨r0, hr0⟩ : ∃ r0, reach P S P.length S.length = r0 := ⟨_, rfl⟩
  have hM : ∀ W, Below w1.heap.size w1 W → Calls Try.prog 24 #[p, .slice As S.length cs] W fun e w' => e = .returned (.bool r0) ∧ Below W.heap.size W w' := fun W hW => by
    have := implMatch_any p _ P S w1.heap.size W (hp.below hW) (hs.below hW) hW.size (by omega) (by omega) okS
    rwa [hr0] at this
  have hN : ∀ W, Below w1.heap.size w1 W → Calls Try.prog 25 #[p, .slice As S.length cs] W fun e w' => e = .returned (.bool r0) ∧ Below W.heap.size W w' := fun W hW => by
    have := specMatch_any p _ P S w1.heap.size W (hp.below hW) (hs.below hW) hW.size (by omega) (by omega) okS
    rwa [hr0] at this
  have hD : ∀ W, Below w1.heap.size w1 W → ∀ g, g = W.heap.size → Calls Try.prog 24 #[.slice (some ⟨g, 0, none⟩) 1 1, .slice As S.length cs] (W.alloc (.cells #[.string ⟨#[46, 46]⟩] 9)) fun e w' => e = .returned (.bool true) ∧ Below (W.alloc (.cells #[.string ⟨#[46, 46]⟩] 9)).heap.size (W.alloc (.cells #[.string ⟨#[46, 46]⟩] 9)) w' := fun W hW g hg => by
    have hW2 := hW.alloc hW.size (.cells #[.string ⟨#[46, 46]⟩] 9)
    have := implMatch_any _ _ [⟨#[46, 46]⟩] S _ _ (rdS_lit (w := W) [⟨#[46, 46]⟩] _ rfl g 1 hg rfl (by simp [maxLen])).sl ((hs.below hW2).more hW2.size) (Nat.le_refl _) (by simp) (by omega) okS
    rwa [reach_dots [⟨#[46, 46]⟩] S (by simp) _ (by simp) (Nat.le_refl _) _ (Nat.le_refl _)] at this
  have hE : ∀ W, Below w1.heap.size w1 W → ∀ g, g = W.heap.size → Calls Try.prog 24 #[.slice (some ⟨g, 0, none⟩) 0 0, .slice As S.length cs] (W.alloc (.cells #[] 9)) fun e w' => e = .returned (.bool ((S.length : Int) == 0)) ∧ Below (W.alloc (.cells #[] 9)).heap.size (W.alloc (.cells #[] 9)) w' := fun W hW g hg => by
    have hW2 := hW.alloc hW.size (.cells #[] 9)
    have := implMatch_any _ _ [] S _ _ (rdS_lit (w := W) [] _ rfl g 0 hg rfl (by simp [maxLen])).sl ((hs.below hW2).more hW2.size) (Nat.le_refl _) (by simp) (by omega) okS
    rw [List.length_nil, reach_zero] at this
    rwa [show decide (S.length = 0) = ((S.length : Int) == 0) by rw [Bool.eq_iff_iff]; simp] at this
  have HM := Lib.hid hM
  have HN := Lib.hid hN
  have HD := Lib.hid hD
  have HE := Lib.hid hE
  clear hM hN hD hE h hh b1 hp hs hr0 okS hS1
  go_wp2_with fail
  refine (HM.out _ (Below.refl _ _)).mono ?_
  rintro e w2 ⟨rfl, b2⟩
  have HB2 := Lib.hid b2
  clear b2
  go_wp2_with fail
  refine (HN.out _ HB2.out).mono ?_
  rintro e w3 ⟨rfl, b3⟩
  have HB3 := Lib.hid (HB2.out.trans (b3.mono HB2.out.size))
  clear b3 HB2
  go_wp2_with fail
  refine (HD.out _ HB3.out _ rfl).mono ?_
  rintro e w4 ⟨rfl, b4⟩
  have HB4 := Lib.hid ((HB3.out.alloc HB3.out.size _).trans (b4.mono (by have := HB3.out.size; simp; omega)))
  clear b4 HB3
  go_wp2_with fail
  refine (HE.out _ HB4.out _ rfl).mono ?_
  rintro e w5 ⟨rfl, b5⟩
  have HB5 := Lib.hid ((HB4.out.alloc HB4.out.size _).trans (b5.mono (by have := HB4.out.size; simp; omega)))
  clear b5 HB4
  have HBw := Lib.hid (HB1.out.trans (HB5.out.mono hsz1))
  have hsz5 := HB5.out.size
  go_wp2_with fail
  refine (drawMatchPath_any _ l w5 ((HH.out.more hsz1).below (HB5.out) |>.more hsz5) hl).mono ?_
  rintro e w6 ⟨⟨q, t, rfl, hq, ht, hcl⟩, b6⟩
  have HB6 := Lib.hid (below_step b6 HBw.out)
  have HCl := Lib.hid hcl
  clear b6 HBw HM HN HD HE hcl
  go_wp2_with fail
  refine (specSplitPath_any t w6 (by omega)).mono ?_
  rintro e w7 ⟨u, rfl, hrd, b7⟩
  have HB7 := Lib.hid (below_step b7 HB6.out)
  obtain ⟨r1, hr1⟩ : ∃ r1, mPath q t = r1 := ⟨_, rfl⟩
  have hQ1 : ∀ W, Calls Try.prog 16 #[.string q, .string t] W fun e w' => e = .returned (.bool r1) ∧ Below W.heap.size W w' := fun W => by
    have := implMatchPath_any q t W (by omega) (by omega)
    rwa [hr1] at this
  have hQ2 : ∀ W, Calls Try.prog 15 #[.string q, .string t] W fun e w' => e = .returned (.bool r1) ∧ Below W.heap.size W w' := fun W => by
    have := specMatchPath_any q t W (by omega) (by omega)
    rwa [hr1] at this
  have hIP : ∀ W, Calls Try.prog 14 #[.string t] W fun e w' => e = .returned (.bool (spOk isStep t)) ∧ Below W.heap.size W w' := fun W => by
    have := implIsPattern_any t W (by omega)
    rwa [spOk_pat t HCl.out] at this
  have HQ1 := Lib.hid hQ1
  have HQ2 := Lib.hid hQ2
  have HIP := Lib.hid hIP
  have hst := Lib.hid (spL_all isStep t)
  have hsi := Lib.hid (splitL_sizes isStep t)
  clear hQ1 hQ2 hIP hr1 b7 HB6
  cases hk : spOk isStep t with
  | false =>
    rw [hk] at HIP
    clear hrd hk
    go_wp2_with fail
    refine (HQ1.out _).mono ?_
    rintro e w8 ⟨rfl, c8⟩
    have HC8 := Lib.hid (below_step c8 HB7.out)
    clear c8
    go_wp2_with fail
    refine (HQ2.out _).mono ?_
    rintro e w9 ⟨rfl, c9⟩
    have HC9 := Lib.hid (below_step c9 HC8.out)
    clear c9
    go_wp2_with fail
    refine (HIP.out _).mono ?_
    rintro e w10 ⟨rfl, c10⟩
    have HC10 := Lib.hid (below_step c10 HC9.out)
    clear c10
    go_wp2
    go_ret
    exact ⟨rfl, HC10.out⟩
  | true =>
    rw [hk] at HIP
    have HT := Lib.hid (show ∀ W, Calls Try.prog 16 #[.string t, .string t] W fun e w' => e = .returned (.bool true) ∧ Below W.heap.size W w' from fun W => by
      have := implMatchPath_any t t W (by omega) (by omega)
      rwa [mPath_self t HCl.out hk] at this)
    have HDt := Lib.hid (show ∀ W, Calls Try.prog 16 #[.string ⟨#[47, 46, 46]⟩, .string t] W fun e w' => e = .returned (.bool true) ∧ Below W.heap.size W w' from fun W => by
      have := implMatchPath_any aDots t W (by decide) (by omega)
      rw [mPath_dots aDots t aDots_ok (by rw [spL_of isPat aDots aDots_ok (by decide), tail_dots]; simp) (by rw [spL_of isPat aDots aDots_ok (by decide), tail_dots]; simp) hk] at this
      exact this)
    have HD2 := Lib.hid (show ∀ W, Calls Try.prog 16 #[.string ⟨#[47, 46, 46, 47, 46, 46]⟩, .string t] W fun e w' => e = .returned (.bool true) ∧ Below W.heap.size W w' from fun W => by
      have := implMatchPath_any aDots2 t W (by decide) (by omega)
      rw [mPath_dots aDots2 t aDots2_ok (by rw [spL_of isPat aDots2 aDots2_ok (by decide), tail_dots2]; simp) (by rw [spL_of isPat aDots2 aDots2_ok (by decide), tail_dots2]; simp) hk] at this
      exact this)
    have hh4 : ∀ W, Calls Try.prog 16 #[.string ⟨#[47, 35]⟩, .string t] W fun e w' => e = .returned (.bool (match spL isStep t with | [x] => isNum x.data.toList | _ => false)) ∧ Below W.heap.size W w' := fun W => by
      have := implMatchPath_any aHash t W (by decide) (by omega)
      rw [mPath_hash aHash t ⟨#[35]⟩ aHash_ok (by rw [spL_of isPat aHash aHash_ok (by decide), tail_hash]) (by rw [ByteArray.toList_eq]; rfl) (by rw [ByteArray.toList_eq]; rfl) hk] at this
      exact this
    obtain ⟨A, c, rfl⟩ : ∃ A c, u = .slice A (spL isStep t).length c := by
      obtain ⟨_, A, c, e, _⟩ := hrd.1
      exact ⟨A, c, e⟩
    have hone := (show SlS w7 w7.heap.size _ (spL isStep t) from hrd.1).one
    clear hk hrd
    generalize spL isStep t = L at *
    match L, hone, hh4, hst, hsi with
    | [], hone, hh4, hst, hsi =>
      have HH4 := Lib.hid hh4
      clear hone hh4 hst hsi
      go_wp2_with fail
      refine (HQ1.out _).mono ?_
      rintro e w8 ⟨rfl, c8⟩
      have HC8 := Lib.hid (below_step c8 HB7.out)
      clear c8
      go_wp2_with fail
      refine (HQ2.out _).mono ?_
      rintro e w9 ⟨rfl, c9⟩
      have HC9 := Lib.hid (below_step c9 HC8.out)
      clear c9
      go_wp2_with fail
      refine (HT.out _).mono ?_
      rintro e w10 ⟨rfl, c10⟩
      have HC10 := Lib.hid (below_step c10 HC9.out)
      clear c10
      go_wp2_with fail
      refine (HDt.out _).mono ?_
      rintro e w11 ⟨rfl, c11⟩
      have HC11 := Lib.hid (below_step c11 HC10.out)
      clear c11
      go_wp2_with fail
      refine (HD2.out _).mono ?_
      rintro e w12 ⟨rfl, c12⟩
      have HC12 := Lib.hid (below_step c12 HC11.out)
      clear c12
      go_wp2_with fail
      refine (HH4.out _).mono ?_
      rintro e w13 ⟨rfl, c13⟩
      have HC13 := Lib.hid (below_step c13 HC12.out)
      clear c13
      go_wp2_with fail
      refine (HIP.out _).mono ?_
      rintro e w14 ⟨rfl, c14⟩
      have HC14 := Lib.hid (below_step c14 HC13.out)
      clear c14
      go_wp2
      go_ret
      exact ⟨rfl, HC14.out⟩
    | x :: y :: L', hone, hh4, hst, hsi =>
      have HH4 := Lib.hid hh4
      have hne : (((x :: y :: L').length : Int) == 1) = false := by rw [beq_eq_false_iff_ne]; simp; omega
      have hne2 : ((L'.length : Int) + 1 + 1 == 1) = false := by rw [beq_eq_false_iff_ne]; omega
      clear hone hh4 hst hsi
      go_wp2_with fail
      refine (HQ1.out _).mono ?_
      rintro e w8 ⟨rfl, c8⟩
      have HC8 := Lib.hid (below_step c8 HB7.out)
      clear c8
      go_wp2_with fail
      refine (HQ2.out _).mono ?_
      rintro e w9 ⟨rfl, c9⟩
      have HC9 := Lib.hid (below_step c9 HC8.out)
      clear c9
      go_wp2_with fail
      refine (HT.out _).mono ?_
      rintro e w10 ⟨rfl, c10⟩
      have HC10 := Lib.hid (below_step c10 HC9.out)
      clear c10
      go_wp2_with fail
      refine (HDt.out _).mono ?_
      rintro e w11 ⟨rfl, c11⟩
      have HC11 := Lib.hid (below_step c11 HC10.out)
      clear c11
      go_wp2_with fail
      refine (HD2.out _).mono ?_
      rintro e w12 ⟨rfl, c12⟩
      have HC12 := Lib.hid (below_step c12 HC11.out)
      clear c12
      go_wp2_with fail
      refine (HH4.out _).mono ?_
      rintro e w13 ⟨rfl, c13⟩
      have HC13 := Lib.hid (below_step c13 HC12.out)
      clear c13
      go_wp2_with fail
      refine (HIP.out _).mono ?_
      rintro e w14 ⟨rfl, c14⟩
      have HC14 := Lib.hid (below_step c14 HC13.out)
      clear c14
      go_wp2
      go_ret
      exact ⟨rfl, HC14.out⟩
    | [x], hone, hh4, hst, hsi =>
      obtain ⟨A', c', e', hc1, hc2, hcell⟩ := hone
      cases e'
      obtain ⟨bb, off, rfl, hbb, hd⟩ := hcell 0 (by simp)
      have hxs := hst.out x (by simp)
      have hxz := hsi.out x (by simp)
      obtain ⟨hz, hnum⟩ := step_digit x hxs
      simp only [Nat.add_zero, List.getElem_cons_zero] at hd
      have hh4 : ∀ W, Calls Try.prog 16 #[.string ⟨#[47, 35]⟩, .string t] W fun e w' => e = .returned (.bool (decide (48 ≤ x[0].toNat) && decide (x[0].toNat ≤ 57))) ∧ Below W.heap.size W w' := fun W => by
        rw [← hnum]; exact hh4 W
      clear hcell hxs hnum hst hsi
      by_cases h48 : (48 : Int) ≤ x[0].toNat
      · by_cases h57 : (x[0].toNat : Int) ≤ 57
        · rw [decide_eq_true (show 48 ≤ x[0].toNat by omega), decide_eq_true (show x[0].toNat ≤ 57 by omega)] at hh4
          have HH4 := Lib.hid hh4
          clear hh4
          go_wp2_with fail
          refine (HQ1.out _).mono ?_
          rintro e w8 ⟨rfl, c8⟩
          have HC8 := Lib.hid (below_step c8 HB7.out)
          have hd := cell_later c8 hd
          clear c8
          go_wp2_with fail
          refine (HQ2.out _).mono ?_
          rintro e w9 ⟨rfl, c9⟩
          have HC9 := Lib.hid (below_step c9 HC8.out)
          have hd := cell_later c9 hd
          clear c9
          go_wp2_with fail
          refine (HT.out _).mono ?_
          rintro e w10 ⟨rfl, c10⟩
          have HC10 := Lib.hid (below_step c10 HC9.out)
          have hd := cell_later c10 hd
          clear c10
          go_wp2_with fail
          refine (HDt.out _).mono ?_
          rintro e w11 ⟨rfl, c11⟩
          have HC11 := Lib.hid (below_step c11 HC10.out)
          have hd := cell_later c11 hd
          clear c11
          go_wp2_with fail
          refine (HD2.out _).mono ?_
          rintro e w12 ⟨rfl, c12⟩
          have HC12 := Lib.hid (below_step c12 HC11.out)
          have hd := cell_later c12 hd
          clear c12
          go_wp2_with fail
          refine (HH4.out _).mono ?_
          rintro e w13 ⟨rfl, c13⟩
          have HC13 := Lib.hid (below_step c13 HC12.out)
          have hd := cell_later c13 hd
          clear c13
          go_wp2_with fail
          refine (HIP.out _).mono ?_
          rintro e w14 ⟨rfl, c14⟩
          have HC14 := Lib.hid (below_step c14 HC13.out)
          have hd := cell_later c14 hd
          clear c14
          go_wp2
          go_ret
          exact ⟨rfl, HC14.out⟩
        · rw [decide_eq_false (show ¬ x[0].toNat ≤ 57 by omega), Bool.and_false] at hh4
          have d57 : decide ((x[0].toNat : Int) ≤ 57) = false := decide_eq_false h57
          have l57 : (57 : Int) < x[0].toNat := by omega
          have n57 : 57 < x[0].toNat := by omega
          have m57 : ¬ (x[0].toNat ≤ 57) := by omega
          have HH4 := Lib.hid hh4
          clear hh4
          go_wp2_with fail
          refine (HQ1.out _).mono ?_
          rintro e w8 ⟨rfl, c8⟩
          have HC8 := Lib.hid (below_step c8 HB7.out)
          have hd := cell_later c8 hd
          clear c8
          go_wp2_with fail
          refine (HQ2.out _).mono ?_
          rintro e w9 ⟨rfl, c9⟩
          have HC9 := Lib.hid (below_step c9 HC8.out)
          have hd := cell_later c9 hd
          clear c9
          go_wp2_with fail
          refine (HT.out _).mono ?_
          rintro e w10 ⟨rfl, c10⟩
          have HC10 := Lib.hid (below_step c10 HC9.out)
          have hd := cell_later c10 hd
          clear c10
          go_wp2_with fail
          refine (HDt.out _).mono ?_
          rintro e w11 ⟨rfl, c11⟩
          have HC11 := Lib.hid (below_step c11 HC10.out)
          have hd := cell_later c11 hd
          clear c11
          go_wp2_with fail
          refine (HD2.out _).mono ?_
          rintro e w12 ⟨rfl, c12⟩
          have HC12 := Lib.hid (below_step c12 HC11.out)
          have hd := cell_later c12 hd
          clear c12
          go_wp2_with fail
          refine (HH4.out _).mono ?_
          rintro e w13 ⟨rfl, c13⟩
          have HC13 := Lib.hid (below_step c13 HC12.out)
          have hd := cell_later c13 hd
          clear c13
          go_wp2_with fail
          refine (HIP.out _).mono ?_
          rintro e w14 ⟨rfl, c14⟩
          have HC14 := Lib.hid (below_step c14 HC13.out)
          have hd := cell_later c14 hd
          clear c14
          go_wp2
          go_ret
          exact ⟨rfl, HC14.out⟩
      · rw [decide_eq_false (show ¬ 48 ≤ x[0].toNat by omega), Bool.false_and] at hh4
        have HH4 := Lib.hid hh4
        have d48 : decide ((48 : Int) ≤ x[0].toNat) = false := decide_eq_false h48
        have l48 : (x[0].toNat : Int) < 48 := by omega
        have n48 : x[0].toNat < 48 := by omega
        have m48 : ¬ (48 ≤ x[0].toNat) := by omega
        clear hh4
        go_wp2_with fail
        refine (HQ1.out _).mono ?_
        rintro e w8 ⟨rfl, c8⟩
        have HC8 := Lib.hid (below_step c8 HB7.out)
        have hd := cell_later c8 hd
        clear c8
        go_wp2_with fail
        refine (HQ2.out _).mono ?_
        rintro e w9 ⟨rfl, c9⟩
        have HC9 := Lib.hid (below_step c9 HC8.out)
        have hd := cell_later c9 hd
        clear c9
        go_wp2_with fail
        refine (HT.out _).mono ?_
        rintro e w10 ⟨rfl, c10⟩
        have HC10 := Lib.hid (below_step c10 HC9.out)
        have hd := cell_later c10 hd
        clear c10
        go_wp2_with fail
        refine (HDt.out _).mono ?_
        rintro e w11 ⟨rfl, c11⟩
        have HC11 := Lib.hid (below_step c11 HC10.out)
        have hd := cell_later c11 hd
        clear c11
        go_wp2_with fail
        refine (HD2.out _).mono ?_
        rintro e w12 ⟨rfl, c12⟩
        have HC12 := Lib.hid (below_step c12 HC11.out)
        have hd := cell_later c12 hd
        clear c12
        go_wp2_with fail
        refine (HH4.out _).mono ?_
        rintro e w13 ⟨rfl, c13⟩
        have HC13 := Lib.hid (below_step c13 HC12.out)
        have hd := cell_later c13 hd
        clear c13
        go_wp2_with fail
        refine (HIP.out _).mono ?_
        rintro e w14 ⟨rfl, c14⟩
        have HC14 := Lib.hid (below_step c14 HC13.out)
        have hd := cell_later c14 hd
        clear c14
        go_wp2
        go_ret
        exact ⟨rfl, HC14.out⟩
end Go.Proofs.Ytglminmoglncpaa.FnPatterns
