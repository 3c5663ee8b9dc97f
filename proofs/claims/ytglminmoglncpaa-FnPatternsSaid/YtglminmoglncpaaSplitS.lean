/- The walk of spec.SplitPath. Condition: the text has at most 2^21 bytes. -/
import Derived.Test.YtglminmoglncpaaSplitP
import Derived.Test.YtglminmoglncpaaIsStep
import Derived.WalkSpells
import Derived.WalkLawsBesides
namespace Go.Proofs.Ytglminmoglncpaa
open Go.RowKit
set_option maxHeartbeats 2000000 in
set_option maxRecDepth 100000 in
theorem specSplitPath_any (s : ByteArray) (w : World) (hs : s.size ≤ 2097152) :
    Calls Try.prog 8 #[.string s] w (RdB (spL isStep s) (spOk isStep s) w) := by
  by_cases hz : s.size = 0
  · have hk : spOk isStep s = true := by simp [spOk, hz]
    have hl : spL isStep s = [] := by simp [spL, hz]
    rw [hk, hl]
    have he : s = ⟨#[]⟩ := by
      apply ByteArray.ext
      exact Array.eq_empty_of_size_eq_zero hz
    subst he
    clear hk hl hz hs
    go_enter Try.func8, Try.ntmps8
    go_wp2
    go_ret2
    exact ⟨_, rfl, rdS_empty rfl (Nat.le_refl _), (Below.refl _ _).alloc (Nat.le_refl _) _⟩
  · obtain ⟨f, t, hft⟩ : ∃ f t, splitT s 47 = f :: t := by
      have := (splitT_length s 47).2
      match h : splitT s 47 with
      | [] => rw [h] at this; simp at this
      | f :: t => exact ⟨f, t, rfl⟩
    have htl : tailT s = t := by rw [tailT, hft]; rfl
    have hlen := (splitT_length s 47).1
    have hsz := splitT_sizes s 47
    have hC : ∀ w' : World, Calls Try.prog 27 #[.string s, .int .u8 47] w' (Fresh w' 9 1 (t.length + 1) ((f :: t).map .string)) := fun w' => by
      have := specSplitText_any s 47 w' hs
      rw [hft] at this
      exact this
    rw [hft] at hlen hsz
    have HL := Lib.hid hlen
    have hne : (s.toList == []) = false := by
      rw [beq_eq_false_iff_ne, ByteArray.toList_eq]
      intro h
      exact hz (by have := congrArg List.length h; simpa using this)
    have hko : spOk isStep s = (decide (f.size = 0) && t.all isStep) := by
      have hpos : 1 ≤ s.size := by omega
      by_cases h0 : s.data[0]? = some 47
      · obtain ⟨t', e', ht'⟩ := splitT_hit s 47 h0
        rw [hft] at e'
        cases e'
        simp [spOk, hz, h0, htl]
      · obtain ⟨p', t', e', hp'⟩ := splitT_miss s 47 hpos h0
        rw [hft] at e'
        cases e'
        have : ¬ f.size = 0 := by omega
        simp [spOk, hz, h0, this]
    have hto : f.size = 0 → 1 ≤ t.length := by
      intro hf0
      by_cases h0 : s.data[0]? = some 47
      · obtain ⟨t', e', ht'⟩ := splitT_hit s 47 h0
        rw [hft] at e'
        cases e'
        cases t with
        | nil => exact absurd rfl ht'
        | cons a b => simp
      · obtain ⟨p', t', e', hp'⟩ := splitT_miss s 47 (by omega) h0
        rw [hft] at e'
        cases e'
        omega
    have hlo : spL isStep s = if f.size = 0 ∧ t.all isStep = true then t else [] := by
      rw [spL, hko, htl]
      simp [hz]
    have HC := Lib.hid hC
    have HS := Lib.hid hsz
    have HK := Lib.hid hko
    have HLo := Lib.hid hlo
    have HT := Lib.hid hto
    clear hC hsz hlen hft hko hlo htl hto
    go_enter Try.func8, Try.ntmps8
    go_wp2_with fail
    refine (HC.out w).mono ?_
    rintro e w1 ⟨v, rfl, hown, hb⟩
    have hcutS := fun (A : Option Addr) (c : Nat) (h : w1.ownsRow w.heap.size 9 1 (.slice A (t.length + 1) c) (t.length + 1) ((f :: t).map .string)) => RdS.cut h
    obtain ⟨A, c, e, hc, hm, hcell⟩ := (own_strs (l := f :: t) hown).one
    subst e
    unfold maxLen at hm
    simp only [List.length_cons] at *
    have HO := Lib.hid (hcutS A c hown)
    obtain ⟨b, off, rfl, hbB, hc0⟩ := hcell 0 (by omega)
    have hcl : ∀ k (h : k < t.length + 1), w1.cell? ⟨b, off + k, none⟩ = some (.string ((f :: t)[k]'(by simpa using h))) := by
      intro k h
      obtain ⟨b', off', e', _, h'⟩ := hcell k h
      cases e'
      exact h'
    have HCl := Lib.hid hcl
    simp only [Nat.add_zero, List.getElem_cons_zero] at hc0
    clear hcutS hown hcell hcl
    have hsz1 := hb.size
    by_cases hf0 : f.size = 0
    · have hfe : (f.toList == []) = true := by
        rw [ByteArray.toList_eq, beq_iff_eq]
        exact List.eq_nil_of_length_eq_zero (by simpa using hf0)
      have ht1 := HT.out hf0
      have hcut := run_cutL (P := Try.prog) Try.underlying22 Try.sizeOf9 (some ⟨b, off, none⟩) (t.length + 1) c 1 1 rfl (by omega)
      have HK1 := Lib.hid (show spOk isStep s = t.all isStep by rw [HK.out]; simp [hf0])
      have HL1 := Lib.hid (show spL isStep s = if t.all isStep = true then t else [] by rw [HLo.out]; simp [hf0])
      have HB := Lib.hid hb
      clear hb hf0 HK HLo HT
      go_wp2
      go_loopw [5] (fun i wr => ∃ k : Nat, 1 ≤ k ∧ k ≤ t.length + 1 ∧ i = .int .i64 k ∧ (t.take (k - 1)).all isStep = true ∧ Below w1.heap.size w1 wr) (fun i _ => t.length + 1 - (intOf i).toNat)
      case atStart => exact ⟨1, Nat.le_refl _, by omega, rfl, by simp, Below.refl _ _⟩
      case round =>
        obtain ⟨k, hk1, hk, rfl, hall, hbw⟩ := hrel
        have HA := Lib.hid hall
        clear hall
        by_cases hlt : k < t.length + 1
        · obtain ⟨j, rfl⟩ : ∃ j, k = j + 1 := ⟨k - 1, by omega⟩
          have hj : j < t.length := by omega
          have hx := (hbw.cell (p := ⟨b, off + (j + 1), none⟩) (by show b < _; omega)).trans (HCl.out (j + 1) hlt)
          rw [show (f :: t)[j + 1]'(by simpa using hlt) = t[j] from rfl] at hx
          have hps := HS.out t[j] (List.mem_cons_of_mem _ (List.getElem_mem hj))
          go_wp2_with fail
          refine (specIsStep_any t[j] _ (by unfold maxLen; omega)).mono ?_
          rintro e w2 ⟨rfl, hb2⟩
          have hbw2 := below_step hb2 hbw
          have hnx : (t.take (j + 1 + 1 - 1)).all isStep = isStep t[j] := by
            rw [show j + 1 + 1 - 1 = j + 1 from rfl, List.take_succ_eq_append_getElem hj, List.all_append]
            have := HA.out
            rw [show j + 1 - 1 = j from rfl] at this
            rw [this]; simp
          have HN := Lib.hid hnx
          have hno : isStep t[j] = false → t.all isStep = false := by
            intro h
            rw [List.all_eq_false]
            exact ⟨t[j], List.getElem_mem hj, by simp [h]⟩
          clear hnx
          generalize hbz : isStep t[j] = bz at *
          cases bz with
          | true =>
            clear hx hb2 hbw hno
            have HW := Lib.hid hbw2
            clear hbw2
            go_wp2
            go_roundw
            case rel => exact ⟨j + 1 + 1, by omega, by omega, by go_num, HN.out, HW.out⟩
            case measure => simp [intOf]; omega
          | false =>
            have hno := hno rfl
            have HK2 := Lib.hid (HK1.out.trans hno)
            have HL2 := Lib.hid (show spL isStep s = [] by rw [HL1.out, hno]; rfl)
            have HB2 := Lib.hid (HB.out.trans (hbw2.mono hsz1))
            have hs2 := hbw2.size
            clear hx hb2 hbw hno hbw2
            go_wp2
            go_ret2
            rw [RdB, HK2.out, HL2.out]
            exact ⟨_, rfl, rdS_empty rfl (by omega), HB2.out.alloc (by omega) _⟩
        · have hkl : k - 1 = t.length := by omega
          have hall : t.all isStep = true := by
            have := HA.out
            rwa [hkl, List.take_length] at this
          have HK2 := Lib.hid (HK1.out.trans hall)
          have HL2 := Lib.hid (show spL isStep s = t by rw [HL1.out, hall]; rfl)
          have HB2 := Lib.hid (HB.out.trans (hbw.mono hsz1))
          have HR := Lib.hid (HO.out.keep (Out.of_below hbw w1.heap.size w1.heap.size) (by omega))
          clear HO hall hkl
          go_wp2
          go_ret2
          rw [RdB, HK2.out, HL2.out]
          have hgt : decide ((1 : Int) < (t.length : Int) + 1) = true := decide_eq_true (by omega)
          refine ⟨_, ?_, HR.out.more hbw.size (Nat.le_refl _), HB2.out⟩
          rw [hgt]
          rfl
    · have hfe : (f.toList == []) = false := by
        rw [beq_eq_false_iff_ne, ByteArray.toList_eq]
        intro h
        exact hf0 (by have := congrArg List.length h; simpa using this)
      have HB := Lib.hid hb
      have HK2 := Lib.hid (show spOk isStep s = false by rw [HK.out]; simp [hf0])
      have HL2 := Lib.hid (show spL isStep s = [] by rw [HLo.out]; simp [hf0])
      clear hb hf0
      go_wp2
      go_ret2
      rw [RdB, HK2.out, HL2.out]
      exact ⟨_, rfl, rdS_empty rfl (by omega), HB.out.alloc (by omega) _⟩
end Go.Proofs.Ytglminmoglncpaa
