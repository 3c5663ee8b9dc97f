/- The walk of impl.MatchSteps. Conditions: the slices read as lists of at most 2^20 strings. -/
import Derived.Test.YtglminmoglncpaaRows
import Derived.Test.YtglminmoglncpaaApp2
import Derived.Test.YtglminmoglncpaaStrs
import Derived.Test.YtglminmoglncpaaMatchM
import Derived.Test.YtglminmoglncpaaMatchS
import Derived.WalkSpells
import Derived.WalkLawsBesides
import Derived.BigQuiet
import Derived.Deep.QuietTactic
import Derived.Deep.RegionHeld3
import Derived.Deep.RegionLaw
import Derived.BigRegion
namespace Go.Proofs.Ytglminmoglncpaa
open Go.RowKit


set_option maxHeartbeats 1000000 in
set_option maxRecDepth 100000 in
theorem fits_any (A : Option Addr) (n c j : Nat) (p s : ByteArray) (b off : Nat) (w : World) (hA : A = some ⟨b, off, none⟩) (hj : j < n) (hn : n ≤ 1048576) (hc0 : w.cell? ⟨b, off + j, none⟩ = some (.string p)) (hs : s.size ≤ maxLen) :
    Calls Try.prog 56 #[.slice A n c, .int .i64 j, .string s] w fun e w' => e = .returned (.bool (fitB p s)) ∧ w = w' := by
  subst hA
  cases hh : (p.toList == [35])
  · have HF := Lib.hid (show fitB p s = (p.toList == s.toList) by rw [fitB, hh]; rfl)
    go_enter Try.func56, Try.ntmps56
    go_wp2
    go_ret
    exact ⟨ret_bool HF.out.symm, rfl⟩
  · have HF := Lib.hid (show fitB p s = isNum s.data.toList by rw [fitB, hh]; rfl)
    go_enter Try.func56, Try.ntmps56
    go_wp2_with (go_at_call 36; refine (implParseInt_any s _ hs).mono ?_; rintro e w9 ⟨rfl, rfl⟩)
    go_ret
    exact ⟨ret_bool HF.out.symm, rfl⟩

set_option maxHeartbeats 4000000 in
set_option maxRecDepth 100000 in
theorem matchP_any (v u : Value) (P S : List ByteArray) (B : Nat) (w : World) (h : SlS w B v P) (g : SlS w B u S) (hB : B ≤ w.heap.size) (hP : P.length ≤ 1048576) (hS : S.length ≤ 1048576) (okS : ∀ s ∈ S, s.size ≤ maxLen) :
    Calls Try.prog 45 #[v, u] w fun e w' => e = .returned (.bool (reach P S P.length S.length)) ∧ Below w.heap.size w w' := by
  obtain ⟨i0, hi, hz0, hz1, hz2⟩ := info_parts Try.info_bool
  obtain ⟨A, c, rfl, hc, hm, hcell⟩ := Sl.one h
  obtain ⟨A', c', rfl, hc', hm', hcell'⟩ := Sl.one g
  unfold maxLen at hm hm'
  clear h g
  have hby : i0.bytes * (S.length + 1) ≤ 281474976710656 := by rw [hz2]; omega
  go_enter Try.func45, Try.ntmps45
  go_wp2_with (at_make; refine wpList_make_full _ rfl _ _ 54 rfl w.heap.size 4 i0 (.bool false) 1 Try.underlying54 hi hz0 hz1 _ _ _ _ (S.length + 1) rfl rfl (by simp) rfl hby (by unfold maxLen; omega) (Nat.le_refl _) ?_; intro w1 hown hg; have hf := hown.frozenAt 0; have hu : w1.cell? ⟨w.heap.size, 0, none⟩ = some (.bool false) := by rw [hown.cellAt 0 (by omega), made_bools]; simp)
  have hbel : Below w.heap.size w w1 := below_grown hg (Nat.le_refl _) (by intro k hk; cases hk)
  have hs := (hown.stored 0 (.bool true)).1
  rw [made_bools, rowB_start P S] at hs
  have hsb := hbel.setCell (p := ⟨w.heap.size, 0, none⟩) (Nat.le_refl _) (.bool true)
  clear hown hg hf hu hbel
  obtain ⟨wo, hwo⟩ : ∃ wo : World, wo = w1.setCell ⟨w.heap.size, 0, none⟩ (.bool true) := ⟨_, rfl⟩
  rw [← hwo] at hs hsb
  rw [← hwo]
  clear hwo
  go_loopw [5, 6, 7, 8, 17] (fun o _ _ _ i wr => ∃ j : Nat, j ≤ P.length ∧ i = .int .i64 j ∧ wr.ownsRow w.heap.size 4 1 o (S.length + 1) (rowB (reach P S j) (S.length + 1)) ∧ Below w.heap.size w wr) (fun _ _ _ _ i _ => P.length - (intOf i).toNat)
  case atStart => exact ⟨0, Nat.zero_le _, rfl, hs, hsb⟩
  case round =>
    clear hs hsb
    obtain ⟨j, hj, rfl, hown, hbel⟩ := hrel
    have hsz := hbel.size
    obtain ⟨gr, cr, rfl, hgr, hcr, hcm, hcellr⟩ := own_at hown (by omega)
    unfold maxLen at hcm
    have hgl : gr < wr.heap.size := (hown.lt gr rfl).2
    by_cases hlt : j < P.length
    · obtain ⟨ba, oa, rfl, hbaB, hca⟩ := hcell j hlt
      have HO := Lib.hid hown
      clear hown
      have hja : decide ((j : Int) < P.length) = true := decide_eq_true (by omega)
      go_wp2_with (at_make; refine wpList_make_full _ rfl _ _ 54 rfl wr.heap.size 4 i0 (.bool false) 1 Try.underlying54 hi hz0 hz1 _ _ _ _ (S.length + 1) rfl rfl (by simp) rfl hby (by unfold maxLen; omega) (Nat.le_refl _) ?_; intro w2 hown2 hg2)
      have hbel2 : Below wr.heap.size wr w2 := below_grown hg2 (Nat.le_refl _) (by intro k hk; cases hk)
      rw [made_bools, ← mixB_zero (reach P S (j + 1))] at hown2
      clear hja hg2
      obtain ⟨wq, hwq⟩ : ∃ wq : World, wq = wr := ⟨_, rfl⟩
      subst hwq
      have hgn : gr ≠ wq.heap.size := by omega
      go_loopw [8, 26] (fun _ i wr => ∃ k : Nat, k ≤ S.length + 1 ∧ i = .int .i64 k ∧ wr.ownsRow wq.heap.size 4 1 (.slice (some ⟨wq.heap.size, 0, none⟩) (S.length + 1) (S.length + 1)) (S.length + 1) (rowB (mixB (reach P S (j + 1)) k) (S.length + 1)) ∧ Below wq.heap.size wq wr) (fun _ i _ => S.length + 1 - (intOf i).toNat)
      case atStart => exact ⟨0, Nat.zero_le _, rfl, hown2, hbel2⟩
      case round =>
        clear hown2 hbel2
        obtain ⟨k, hk, rfl, hown2, hbel2⟩ := hrel
        have hsz2 := hbel2.size
        have hblt : wq.heap.size < wr.heap.size := (hown2.lt _ rfl).2
        by_cases hlt2 : k < S.length + 1
        · have hle : decide ((k : Int) < (S.length : Int) + 1) = true := decide_eq_true (by omega)
          have d1 : wr.cell? ⟨gr, k, none⟩ = some (.bool (reach P S j k)) := (hbel2.cell (p := ⟨gr, k, none⟩) hgl).trans ((hcellr k (by omega)).trans (rowB_at _ _ _ (by omega)))
          have hbw := hbel.trans (hbel2.mono hbel.size)
          have d4 := (hbw.cell (p := ⟨ba, oa + j, none⟩) (by show ba < _; omega)).trans hca
          have hfz := hown2.frozenAt k
          have hcu := (hown2.cellAt k (by omega)).trans (rowB_at _ _ _ (by omega))
          clear hbw hcell hca
          cases hp : (P[j].toList == [46, 46])
          · by_cases hk0 : k = 0
            · subst hk0
              have hz : ((0 : Nat) : Int) = 0 := rfl
              have hrf : reach P S (j + 1) 0 = false := by rw [reach_one _ _ _ hlt, hp]; rfl
              rw [mixB_skip hrf] at hown2
              have H := Lib.hid (And.intro hown2 hbel2)
              clear hown2 hbel2 hcellr hcell' hrf
              go_wp2
              go_roundw
              case rel => exact ⟨1, by omega, by go_num, H.out.1, H.out.2⟩
              case measure => simp [intOf]
            · obtain ⟨kk, rfl⟩ : ∃ kk, k = kk + 1 := ⟨k - 1, by omega⟩
              have hks : kk < S.length := by omega
              obtain ⟨bb, ob, rfl, hbbB, hcb⟩ := hcell' kk hks
              have hbw := hbel.trans (hbel2.mono hbel.size)
              have d5 := (hbw.cell (p := ⟨bb, ob + kk, none⟩) (by show bb < _; omega)).trans hcb
              have d2 : wr.cell? ⟨gr, kk, none⟩ = some (.bool (reach P S j kk)) := (hbel2.cell (p := ⟨gr, kk, none⟩) hgl).trans ((hcellr kk (by omega)).trans (rowB_at _ _ _ (by omega)))
              have hz : decide (0 < (kk : Int) + 1) = true := decide_eq_true (by omega)
              have hsk := okS _ (List.getElem_mem hks)
              clear hbw hcb hk0
              cases hr : reach P S j kk
              · rw [hr] at d2
                have hrf : reach P S (j + 1) (kk + 1) = false := by rw [reach_succ _ _ _ _ hlt hks, hp, hr]; rfl
                have hs := (hown2.stored ((kk + 1)) (.bool false)).1
                rw [mixB_put (f := reach P S (j + 1)) (j := (kk + 1)) (b := false) (hrf)] at hs
                have hsb := hbel2.setCell (p := ⟨wq.heap.size, (kk + 1), none⟩) (Nat.le_refl _) (.bool false)
                have H := Lib.hid (And.intro hs hsb)
                clear hs hsb hown2 hbel2 hcellr hcell' hrf hr
                go_wp2
                go_roundw
                case rel => exact ⟨(kk + 1) + 1, by omega, by go_num, H.out.1, H.out.2⟩
                case measure => simp [intOf] <;> omega
              · rw [hr] at d2
                have hrf : reach P S (j + 1) (kk + 1) = fitB P[j] S[kk] := by rw [reach_succ _ _ _ _ hlt hks, hp, hr]; rfl
                have hs := (hown2.stored ((kk + 1)) (.bool (fitB P[j] S[kk]))).1
                rw [mixB_put (f := reach P S (j + 1)) (j := (kk + 1)) (b := (fitB P[j] S[kk])) (hrf)] at hs
                have hsb := hbel2.setCell (p := ⟨wq.heap.size, (kk + 1), none⟩) (Nat.le_refl _) (.bool (fitB P[j] S[kk]))
                have H := Lib.hid (And.intro hs hsb)
                clear hs hsb hown2 hbel2 hcellr hcell' hrf hr
                go_wp2_with (go_at_call 56; refine (fits_any _ _ _ j P[j] S[kk] ba oa _ rfl hlt (by omega) d4 hsk).mono ?_; rintro e w9 ⟨rfl, rfl⟩)
                go_roundw
                case rel => exact ⟨(kk + 1) + 1, by omega, by go_num, H.out.1, H.out.2⟩
                case measure => simp [intOf] <;> omega
          · cases hr : reach P S j k
            · by_cases hk0 : k = 0
              · subst hk0
                have hrf : reach P S (j + 1) 0 = false := by rw [reach_one _ _ _ hlt, hp, hr]; rfl
                rw [hr] at d1
                have hs := (hown2.stored (0) (.bool false)).1
                rw [mixB_put (f := reach P S (j + 1)) (j := 0) (b := false) (hrf)] at hs
                have hsb := hbel2.setCell (p := ⟨wq.heap.size, 0, none⟩) (Nat.le_refl _) (.bool false)
                have H := Lib.hid (And.intro hs hsb)
                clear hs hsb hown2 hbel2 hcellr hcell' hr hrf
                go_wp2
                go_roundw
                case rel => exact ⟨0 + 1, by omega, by go_num, H.out.1, H.out.2⟩
                case measure => simp [intOf] <;> omega
              · obtain ⟨kk, rfl⟩ : ∃ kk, k = kk + 1 := ⟨k - 1, by omega⟩
                have hks : kk < S.length := by omega
                have hrf : reach P S (j + 1) (kk + 1) = reach P S (j + 1) kk := by rw [reach_succ _ _ _ _ hlt hks, hp, hr]; rfl
                have d2 := (hown2.cellAt kk (by omega)).trans (rowB_at _ _ _ (by omega))
                rw [mixB_new (by omega)] at d2
                rw [hr] at d1
                have hz : decide (0 < (kk : Int) + 1) = true := decide_eq_true (by omega)
                clear hk0
                have hs := (hown2.stored ((kk + 1)) (.bool (reach P S (j + 1) kk))).1
                rw [mixB_put (f := reach P S (j + 1)) (j := (kk + 1)) (b := (reach P S (j + 1) kk)) (hrf)] at hs
                have hsb := hbel2.setCell (p := ⟨wq.heap.size, (kk + 1), none⟩) (Nat.le_refl _) (.bool (reach P S (j + 1) kk))
                have H := Lib.hid (And.intro hs hsb)
                clear hs hsb hown2 hbel2 hcellr hcell' hr hrf
                go_wp2
                go_roundw
                case rel => exact ⟨(kk + 1) + 1, by omega, by go_num, H.out.1, H.out.2⟩
                case measure => simp [intOf] <;> omega
            · have hrf : reach P S (j + 1) k = true := by
                cases k with
                | zero => rw [reach_one _ _ _ hlt, hp, hr]; rfl
                | succ kk => rw [reach_succ _ _ _ _ hlt (by omega), hp, hr]; rfl
              rw [hr] at d1
              have hs := (hown2.stored (k) (.bool true)).1
              rw [mixB_put (f := reach P S (j + 1)) (j := k) (b := true) (hrf)] at hs
              have hsb := hbel2.setCell (p := ⟨wq.heap.size, k, none⟩) (Nat.le_refl _) (.bool true)
              have H := Lib.hid (And.intro hs hsb)
              clear hs hsb hown2 hbel2 hcellr hcell' hr hrf
              go_wp2
              go_roundw
              case rel => exact ⟨k + 1, by omega, by go_num, H.out.1, H.out.2⟩
              case measure => simp [intOf] <;> omega
        · have hkb : k = S.length + 1 := by omega
          rw [hkb, mixB_all] at hown2
          have H := Lib.hid (And.intro (own_base hown2 hbel.size) (hbel.trans (hbel2.mono hbel.size)))
          clear hkb hcellr hcell hcell' hown2 hbel2 hbel HO hsz2 hgl
          go_wp2
          go_roundw
          case rel => exact ⟨j + 1, by omega, by go_num, H.out.1, H.out.2⟩
          case measure => simp [intOf] <;> omega
    · obtain rfl : j = P.length := by omega
      have hce := (hcellr S.length (by omega)).trans (rowB_at _ _ _ (by omega))
      clear hcell hcell' hcellr hown
      go_wp2
      go_ret
      exact ⟨rfl, hbel⟩
theorem implMatch_any (v u : Value) (P S : List ByteArray) (B : Nat) (w : World) (h : SlS w B v P) (g : SlS w B u S) (hB : B ≤ w.heap.size) (hP : P.length ≤ 1048576) (hS : S.length ≤ 1048576) (okS : ∀ s ∈ S, s.size ≤ maxLen) :
    Calls Try.prog 24 #[v, u] w fun e w' => e = .returned (.bool (reach P S P.length S.length)) ∧ Below w.heap.size w w' := by
  go_enter Try.func24, Try.ntmps24
  go_wp2_with fail
  refine (matchP_any v u P S B w h g hB hP hS okS).mono ?_
  rintro e w2 ⟨rfl, hb⟩
  have HB := Lib.hid hb
  clear hb h g
  go_wp2
  go_ret
  exact ⟨rfl, HB.out⟩
end Go.Proofs.Ytglminmoglncpaa
