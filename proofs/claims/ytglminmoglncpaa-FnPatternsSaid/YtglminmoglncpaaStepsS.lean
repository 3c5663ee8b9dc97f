/- The walk of spec.l21Steps. Condition: the text has at most 2^21 bytes. -/
import Derived.Test.YtglminmoglncpaaRfPat
import Derived.WalkSpells
import Derived.WalkLawsBesides
import Derived.BigQuiet
import Derived.Deep.QuietTactic
namespace Go.Proofs.Ytglminmoglncpaa
open Go.RowKit
/-- The steps that spec's reading of a pattern hands back. -/
def patL (s : ByteArray) : List ByteArray := if s.size ≠ 0 ∧ (tailT s).all isPat = true then tailT s else []
theorem rdB_out {l : List ByteArray} {b : Bool} {w w' w1 : World} {A : Value} {v : Value} (hv : v = .tuple #[A, .bool b]) (h : RdS l w.heap.size w1.heap.size w' A) (hb : Below w.heap.size w w') (hs : w1.heap.size ≤ w'.heap.size) : RdB l b w (.returned v) w' :=
  ⟨_, by rw [hv], h.more hs (Nat.le_refl _), hb⟩
set_option maxHeartbeats 2000000 in
set_option maxRecDepth 100000 in
theorem specSteps_any (s : ByteArray) (w : World) (hs : s.size ≤ 2097152) :
    Calls Try.prog 31 #[.string s] w (RdB (patL s) (spOk isPat s) w) := by
  by_cases hz : s.size = 0
  · have hk : spOk isPat s = true := by simp [spOk, hz]
    have hl : patL s = [] := by simp [patL, hz]
    rw [hk, hl]
    have he : s = ⟨#[]⟩ := by
      apply ByteArray.ext
      exact Array.eq_empty_of_size_eq_zero hz
    subst he
    clear hk hl hz hs
    go_enter Try.func31, Try.ntmps31
    go_wp2
    go_ret2
    exact ⟨_, rfl, rdS_empty rfl (Nat.le_refl _), (Below.refl _ _).alloc (Nat.le_refl _) _⟩
  · obtain ⟨f, t, hft⟩ : ∃ f t, splitT s 47 = f :: t := by
      have := (splitT_length s 47).2
      match h : splitT s 47 with
      | [] => rw [h] at this; simp at this
      | f :: t => exact ⟨f, t, rfl⟩
    have htl : tailT s = t := by rw [tailT, hft]; rfl
    have hlen := (splitT_length s 47).1
    have hsz := splitT_sizes s 47
    have hC : ∀ w' : World, Calls Try.prog 27 #[.string s, .int .u8 47] w' (Fresh w' 9 1 (t.length + 1) ((f :: t).map .string)) := fun w' => by
      have := specSplitText_any s 47 w' hs
      rw [hft] at this
      exact this
    rw [hft] at hlen hsz
    have HL := Lib.hid hlen
    have hne : (s.toList == []) = false := by
      rw [beq_eq_false_iff_ne, ByteArray.toList_eq]
      intro h
      exact hz (by have := congrArg List.length h; simpa using this)
    have hko : spOk isPat s = (decide (f.size = 0) && t.all isPat) ∧ (f.size = 0 → 1 ≤ t.length) := by
      have hpos : 1 ≤ s.size := by omega
      by_cases h0 : s.data[0]? = some 47
      · obtain ⟨t', e', ht'⟩ := splitT_hit s 47 h0
        rw [hft] at e'
        cases e'
        refine ⟨by simp [spOk, hz, h0, htl], fun _ => ?_⟩
        cases t with
        | nil => exact absurd rfl ht'
        | cons a b => simp
      · obtain ⟨p', t', e', hp'⟩ := splitT_miss s 47 hpos h0
        rw [hft] at e'
        cases e'
        have : ¬ f.size = 0 := by omega
        exact ⟨by simp [spOk, hz, h0, this], fun h => absurd h this⟩
    have hlo : patL s = if t.all isPat = true then t else [] := by
      rw [patL, htl]
      simp [hz]
    have HC := Lib.hid hC
    have HS := Lib.hid hsz
    have HK := Lib.hid hko
    have HLo := Lib.hid hlo
    clear hC hsz hlen hft hko hlo htl
    go_enter Try.func31, Try.ntmps31
    go_wp2_with fail
    refine (HC.out w).mono ?_
    rintro e w1 ⟨v, rfl, hown, hb⟩
    have hcutS := fun (A : Option Addr) (c : Nat) (h : w1.ownsRow w.heap.size 9 1 (.slice A (t.length + 1) c) (t.length + 1) ((f :: t).map .string)) => RdS.cut h
    obtain ⟨A, c, e, hc, hm, hcell⟩ := (own_strs (l := f :: t) hown).one
    subst e
    unfold maxLen at hm
    simp only [List.length_cons] at *
    have HO := Lib.hid (hcutS A c hown)
    obtain ⟨b, off, rfl, hbB, hc0⟩ := hcell 0 (by omega)
    have hcl : ∀ k (h : k < t.length + 1), w1.cell? ⟨b, off + k, none⟩ = some (.string ((f :: t)[k]'(by simpa using h))) := by
      intro k h
      obtain ⟨b', off', e', _, h'⟩ := hcell k h
      cases e'
      exact h'
    have HCl := Lib.hid hcl
    simp only [Nat.add_zero, List.getElem_cons_zero] at hc0
    clear hcutS hown hcell hcl
    have hsz1 := hb.size
    have hcut := run_cutL (P := Try.prog) Try.underlying22 Try.sizeOf9 (some ⟨b, off, none⟩) (t.length + 1) c 1 1 rfl (by omega)
    have HB := Lib.hid hb
    clear hb
    go_wp2
    go_loopw [5] (fun i wr => ∃ k : Nat, 1 ≤ k ∧ k ≤ t.length + 1 ∧ i = .int .i64 k ∧ (t.take (k - 1)).all isPat = true ∧ Below w1.heap.size w1 wr) (fun i _ => t.length + 1 - (intOf i).toNat)
    case atStart => exact ⟨1, Nat.le_refl _, by omega, rfl, by simp, Below.refl _ _⟩
    case round =>
      obtain ⟨k, hk1, hk, rfl, hall, hbw⟩ := hrel
      have HA := Lib.hid hall
      clear hall
      by_cases hlt : k < t.length + 1
      · obtain ⟨j, rfl⟩ : ∃ j, k = j + 1 := ⟨k - 1, by omega⟩
        have hj : j < t.length := by omega
        have hx := (hbw.cell (p := ⟨b, off + (j + 1), none⟩) (by show b < _; omega)).trans (HCl.out (j + 1) hlt)
        rw [show (f :: t)[j + 1]'(by simpa using hlt) = t[j] from rfl] at hx
        have hps := HS.out t[j] (List.mem_cons_of_mem _ (List.getElem_mem hj))
        have hnx : (t.take (j + 1 + 1 - 1)).all isPat = isPat t[j] := by
          rw [show j + 1 + 1 - 1 = j + 1 from rfl, List.take_succ_eq_append_getElem hj, List.all_append]
          have := HA.out
          rw [show j + 1 - 1 = j from rfl] at this
          rw [this]; simp
        have HN := Lib.hid hnx
        have HNo := Lib.hid (show isPat t[j] = false → t.all isPat = false by
          intro h
          rw [List.all_eq_false]
          exact ⟨t[j], List.getElem_mem hj, by simp [h]⟩)
        have hIS := specIsStep_any t[j]
        clear hnx
        generalize t[j] = y at *
        have hd := isPat_cases y
        have HI := Lib.hid hIS
        clear hIS hc0
        go_wp2_with fail
        refine (HI.out _ (by unfold maxLen; omega)).mono ?_
        rintro e w2 ⟨rfl, hb2⟩
        have hx2 := cell_later hb2 hx
        have HW := Lib.hid (below_step hb2 hbw)
        have hs2 := HW.out.size
        clear hx hb2 hbw
        rcases hd with ⟨h1, hp⟩ | ⟨h1, h2, hp⟩ | ⟨h1, h2, h3, hp⟩ | ⟨h1, h2, h3, hp⟩
        · have HP := Lib.hid hp
          rw [h1]
          clear hp h1
          go_wp2
          go_roundw
          case rel => exact ⟨j + 1 + 1, by omega, by omega, by go_num, HN.out.trans HP.out, HW.out⟩
          case measure => simp [intOf]; omega
        · have HP := Lib.hid hp
          rw [h1]
          clear hp h1
          go_wp2
          go_roundw
          case rel => exact ⟨j + 1 + 1, by omega, by omega, by go_num, HN.out.trans HP.out, HW.out⟩
          case measure => simp [intOf]; omega
        · have HP := Lib.hid hp
          rw [h1]
          clear hp h1
          go_wp2
          go_roundw
          case rel => exact ⟨j + 1 + 1, by omega, by omega, by go_num, HN.out.trans HP.out, HW.out⟩
          case measure => simp [intOf]; omega
        · have hna := HNo.out hp
          have HK2 := Lib.hid (show spOk isPat s = false by rw [HK.out.1, hna]; simp)
          have HL2 := Lib.hid (show patL s = [] by rw [HLo.out, hna]; rfl)
          have HB2 := Lib.hid (HB.out.trans (HW.out.mono hsz1))
          rw [h1]
          clear hp h1 hna
          go_wp2
          go_ret2
          rw [RdB, HK2.out, HL2.out]
          exact ⟨_, rfl, rdS_empty rfl (by omega), HB2.out.alloc (by omega) _⟩
      · have hkl : k - 1 = t.length := by omega
        have hall : t.all isPat = true := by
          have := HA.out
          rwa [hkl, List.take_length] at this
        have HL2 := Lib.hid (show patL s = t by rw [HLo.out, hall]; rfl)
        have HB2 := Lib.hid (HB.out.trans (hbw.mono hsz1))
        have HR := Lib.hid (HO.out.keep (Out.of_below hbw w1.heap.size w1.heap.size) (by omega))
        have hcw := (hbw.cell (p := ⟨b, off, none⟩) (by show b < _; omega)).trans hc0
        have hsw := hbw.size
        by_cases hf0 : f.size = 0
        · have hfe : (f.toList == []) = true := by
            rw [ByteArray.toList_eq, beq_iff_eq]
            exact List.eq_nil_of_length_eq_zero (by simpa using hf0)
          have ht1 := HK.out.2 hf0
          have HK2 := Lib.hid (show spOk isPat s = true by rw [HK.out.1, hall]; simp [hf0])
          clear HO hall hkl hf0 hbw hc0
          have hgt : decide ((1 : Int) < (t.length : Int) + 1) = true := decide_eq_true (by omega)
          go_wp2_with fail
          go_quiet (fail)
          go_wp2
          go_ret2
          rw [RdB, HK2.out, HL2.out]
          exact ⟨_, rfl, (show RdS t w.heap.size wr.heap.size (wr.drewN nq) _ from HR.out.more hsw (Nat.le_refl _)), below_drewN HB2.out nq⟩
        · have hfe : (f.toList == []) = false := by
            rw [beq_eq_false_iff_ne, ByteArray.toList_eq]
            intro h
            exact hf0 (by have := congrArg List.length h; simpa using this)
          have HK2 := Lib.hid (show spOk isPat s = false by rw [HK.out.1]; simp [hf0])
          clear HO hall hkl hf0 hbw hc0
          go_wp2_with fail
          go_quiet (fail)
          go_wp2
          go_ret2
          rw [RdB, HK2.out, HL2.out]
          exact ⟨_, rfl, (show RdS t w.heap.size wr.heap.size (wr.drewN nq) _ from HR.out.more hsw (Nat.le_refl _)), below_drewN HB2.out nq⟩
end Go.Proofs.Ytglminmoglncpaa
