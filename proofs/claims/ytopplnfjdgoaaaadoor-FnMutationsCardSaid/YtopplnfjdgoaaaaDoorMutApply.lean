/- The walks of ApplyMutation, spec and impl. Conditions: the slice reads as a list of at most 2^21 bytes, the mutation's numbers are ints. -/
import Derived.Test.YtopplnfjdgoaaaaDoorMut
import Derived.WalkSpells
import Derived.WalkLawsBesides
import Derived.Deep.RegionHeld3
import Derived.BigQuiet
import Derived.Deep.QuietTactic
import Derived.ChangeKeysEq
namespace Go.Proofs.YtopplnfjdgoaaaaDoor
open Go.RowKit

theorem slb_one {W : World} {z : Int} (h0 : 0 ≤ z) (h1 : z ≤ 255) {g : Nat} (hg : g = W.heap.size) : SlB (W.alloc (.cells #[.int .u8 z] 5)) (W.heap.size + 1) (.slice (some ⟨g, 0, none⟩) 1 1) [UInt8.ofNat z.toNat] := by
  subst hg
  refine ⟨by simp, _, _, rfl, by simp, by simp [maxLen], fun _ => ⟨W.heap.size, 0, rfl, by omega, fun j u hu => ?_⟩⟩
  match j, hu with
  | 0, hu =>
    simp only [u8s, List.map_cons, List.map_nil, List.getElem?_cons_zero, Option.some.injEq] at hu
    subst hu
    have e : ((UInt8.ofNat z.toNat).toNat : Int) = z := by rw [UInt8.toNat_ofNat']; omega
    simp [go_sem, u8v]
    omega
  | j + 1, hu => simp [u8s] at hu
theorem slb_none {W : World} {g : Nat} (hg : g = W.heap.size) : SlB (W.alloc (.cells #[] 5)) (W.heap.size + 1) (.slice (some ⟨g, 0, none⟩) 0 0) [] := by
  subst hg
  exact Sl.more (Sl.of_own (own_empty_at (base := 0) (e := 5) rfl (Nat.zero_le _))) (by simp)
theorem mut_no (l : List UInt8) (m : Muta) (h : mutOk l m = false) : mutL l m = l := by rw [mutL, h]; rfl

set_option maxHeartbeats 4000000 in
set_option maxRecDepth 100000 in
theorem specApply_any (v : Value) (l : List UInt8) (m : Muta) (B : Nat) (w : World) (h : SlB w B v l) (hB : B ≤ w.heap.size) (hl : l.length ≤ 2097152) (hm : m.ok) :
    Calls Tryd.prog 17 #[v, mutV m] w (FreshB w (mutL l m) (mutOk l m)) := by
  obtain ⟨i0, hi, hz0, hz1, hz2⟩ := info_parts Tryd.info_u8
  have H0 := Lib.hid h
  obtain ⟨A, c, rfl, hc, hcm, hcell⟩ := h.open_
  unfold maxLen at hcm
  clear hcell h
  obtain ⟨kind, pos, byte⟩ := m
  obtain ⟨⟨hk0, hk1⟩, ⟨hp0, hp1⟩, ⟨hb0, hb1⟩⟩ := hm
  dsimp only at *
  unfold mutV
  dsimp only
  have HO0 : (0 ≤ byte ∧ byte ≤ 255) → (0 ≤ pos ∧ pos ≤ l.length) → mutOk l ⟨kind, pos, byte⟩ = ((decide (kind = 1) && decide (pos < l.length)) || (decide (kind = 2) || (decide (kind = 3) && (decide (pos < l.length) && decide (byte = 0))))) := by
    rintro ⟨a, b⟩ ⟨c, d⟩
    simp [mutOk, a, b, c, d]
  by_cases hby : 0 ≤ byte ∧ byte ≤ 255
  · have hin := inB_true hby.1 hby.2
    by_cases hps : 0 ≤ pos ∧ pos ≤ l.length
    · have hin2 := inB_true hps.1 hps.2
      have HO1 := Lib.hid (HO0 hby hps)
      clear HO0
      obtain ⟨hby0, hby1⟩ := hby
      obtain ⟨hps0, hps1⟩ := hps
      obtain ⟨p, rfl⟩ := Int.eq_ofNat_of_zero_le hps0
      have hpl : p ≤ l.length := by omega
      by_cases h1 : kind = 1
      · subst h1
        by_cases hlt : (p : Int) < l.length
        · have HO := Lib.hid (show mutOk l ⟨1, p, byte⟩ = true from HO1.out.trans (by simp [show p < l.length by omega]))
          have HM := Lib.hid (show mutL l ⟨1, p, byte⟩ = spliceL l p 1 [UInt8.ofNat byte.toNat] by rw [mutL, HO.out]; simp)
          have hd : decide ((p : Int) < l.length) = true := decide_eq_true hlt
          go_enter Tryd.func17, Tryd.ntmps17
          go_wp2_with (first | (at_builtin; refine wpList_app _ rfl (.tmp 7) (.tmp 8) 35 rfl (w.heap.size + 1) 5 i0 (.int .u8 0) 1 1 Tryd.underlying35 hi hz0 hz1 hz2 rfl (by decide) _ 0 [] rfl (by exact own_empty_at (by simp) (by simp)) B l.length _ (u8s l) rfl (SlB.below H0.out (((Below.refl _ _).alloc hB _).alloc (by simp; omega) _)) (u8s_one _) (by omega) (by unfold maxLen; omega) (by simp) ?_; intro v6 w1 own6 hg6 _; have b1 := below_app_empty_at hg6 (by simp); rw [Nat.zero_add, List.nil_append] at own6; have bb := below_step b1 ((Below.refl w.heap.size w).alloc (Nat.le_refl _) _); have k0 : w1.cell? ⟨w.heap.size, 0, none⟩ = some (.int .i64 1) := cell_later b1 (by simp [go_sem]); have k1 : w1.cell? ⟨w.heap.size, 1, none⟩ = some (.int .i64 p) := cell_later b1 (by simp [go_sem]); have k2 : w1.cell? ⟨w.heap.size, 2, none⟩ = some (.int .i64 byte) := cell_later b1 (by simp [go_sem]); have hsz := bb.size; have hlt := World.block_lt_of_cell? w1 _ k0; clear hg6 b1) | (go_at_call 30; refine (l1In_any _ _ _ _).mono ?_; rintro e w' ⟨rfl, rfl⟩) | (go_at_call 31; refine (specSplice_yes _ _ l [UInt8.ofNat byte.toNat] p 1 (w1.heap.size + 1) _ (SlB.more (SlB.below H0.out (Below.trans (bb.mono hB) ((Below.refl _ _).alloc (by omega) _))) (by omega)) (slb_one hby0 hby1 rfl) (by simp) (by omega) (by simp) (by omega)).mono ?_; rintro e w3 ⟨v3, rfl, own3, b3⟩))
          go_ret2
          exact ⟨v3, by rw [HO.out]; rfl, by rw [HM.out]; exact own_base own3 (by simp; omega), below_step b3 (bb.alloc (by omega) _)⟩
        · have HO := Lib.hid (show mutOk l ⟨1, p, byte⟩ = false from HO1.out.trans (by simp [show ¬ p < l.length by omega]))
          have hd : decide ((p : Int) < l.length) = false := decide_eq_false hlt
          have HM := Lib.hid (mut_no l ⟨1, p, byte⟩ HO.out)
          go_enter Tryd.func17, Tryd.ntmps17
          go_wp2_with (first | (at_builtin; refine wpList_app _ rfl (.tmp 7) (.tmp 8) 35 rfl (w.heap.size + 1) 5 i0 (.int .u8 0) 1 1 Tryd.underlying35 hi hz0 hz1 hz2 rfl (by decide) _ 0 [] rfl (by exact own_empty_at (by simp) (by simp)) B l.length _ (u8s l) rfl (SlB.below H0.out (((Below.refl _ _).alloc hB _).alloc (by simp; omega) _)) (u8s_one _) (by omega) (by unfold maxLen; omega) (by simp) ?_; intro v6 w1 own6 hg6 _; have b1 := below_app_empty_at hg6 (by simp); rw [Nat.zero_add, List.nil_append] at own6; have bb := below_step b1 ((Below.refl w.heap.size w).alloc (Nat.le_refl _) _); have k0 : w1.cell? ⟨w.heap.size, 0, none⟩ = some (.int .i64 1) := cell_later b1 (by simp [go_sem]); have k1 : w1.cell? ⟨w.heap.size, 1, none⟩ = some (.int .i64 p) := cell_later b1 (by simp [go_sem]); have k2 : w1.cell? ⟨w.heap.size, 2, none⟩ = some (.int .i64 byte) := cell_later b1 (by simp [go_sem]); have hsz := bb.size; have hlt := World.block_lt_of_cell? w1 _ k0; clear hg6 b1) | (go_at_call 30; refine (l1In_any _ _ _ _).mono ?_; rintro e w' ⟨rfl, rfl⟩))
          go_ret2
          exact ⟨v6, by rw [HO.out]; rfl, by rw [HM.out]; exact own_base own6 (by omega), bb⟩
      · have d1 : (kind == 1) = false := beq_eq_false_iff_ne.2 h1
        by_cases h2 : kind = 2
        · subst h2
          clear h1
          have HO := Lib.hid (show mutOk l ⟨2, p, byte⟩ = true from HO1.out.trans (by simp))
          have HM := Lib.hid (show mutL l ⟨2, p, byte⟩ = spliceL l p 0 [UInt8.ofNat byte.toNat] by rw [mutL, HO.out]; simp)
          go_enter Tryd.func17, Tryd.ntmps17
          go_wp2_with (first | (at_builtin; refine wpList_app _ rfl (.tmp 7) (.tmp 8) 35 rfl (w.heap.size + 1) 5 i0 (.int .u8 0) 1 1 Tryd.underlying35 hi hz0 hz1 hz2 rfl (by decide) _ 0 [] rfl (by exact own_empty_at (by simp) (by simp)) B l.length _ (u8s l) rfl (SlB.below H0.out (((Below.refl _ _).alloc hB _).alloc (by simp; omega) _)) (u8s_one _) (by omega) (by unfold maxLen; omega) (by simp) ?_; intro v6 w1 own6 hg6 _; have b1 := below_app_empty_at hg6 (by simp); rw [Nat.zero_add, List.nil_append] at own6; have bb := below_step b1 ((Below.refl w.heap.size w).alloc (Nat.le_refl _) _); have k0 : w1.cell? ⟨w.heap.size, 0, none⟩ = some (.int .i64 2) := cell_later b1 (by simp [go_sem]); have k1 : w1.cell? ⟨w.heap.size, 1, none⟩ = some (.int .i64 p) := cell_later b1 (by simp [go_sem]); have k2 : w1.cell? ⟨w.heap.size, 2, none⟩ = some (.int .i64 byte) := cell_later b1 (by simp [go_sem]); have hsz := bb.size; have hlt := World.block_lt_of_cell? w1 _ k0; clear hg6 b1) | (go_at_call 30; refine (l1In_any _ _ _ _).mono ?_; rintro e w' ⟨rfl, rfl⟩) | (go_at_call 31; refine (specSplice_yes _ _ l [UInt8.ofNat byte.toNat] p 0 (w1.heap.size + 1) _ (SlB.more (SlB.below H0.out (Below.trans (bb.mono hB) ((Below.refl _ _).alloc (by omega) _))) (by omega)) (slb_one hby0 hby1 rfl) (by simp) (by omega) (by simp) (by omega)).mono ?_; rintro e w3 ⟨v3, rfl, own3, b3⟩))
          go_ret2
          exact ⟨v3, by rw [HO.out]; rfl, by rw [HM.out]; exact own_base own3 (by simp; omega), below_step b3 (bb.alloc (by omega) _)⟩
        · have d2 : (kind == 2) = false := beq_eq_false_iff_ne.2 h2
          by_cases h3 : kind = 3
          · subst h3
            clear h1 h2
            by_cases hlt : (p : Int) < l.length
            · have hd : decide ((p : Int) < l.length) = true := decide_eq_true hlt
              by_cases hz : byte = 0
              · subst hz
                have HO := Lib.hid (show mutOk l ⟨3, p, 0⟩ = true from HO1.out.trans (by simp [show p < l.length by omega]))
                have HM := Lib.hid (show mutL l ⟨3, p, 0⟩ = spliceL l p 1 [] by rw [mutL, HO.out]; simp)
                go_enter Tryd.func17, Tryd.ntmps17
                go_wp2_with (first | (at_builtin; refine wpList_app _ rfl (.tmp 7) (.tmp 8) 35 rfl (w.heap.size + 1) 5 i0 (.int .u8 0) 1 1 Tryd.underlying35 hi hz0 hz1 hz2 rfl (by decide) _ 0 [] rfl (by exact own_empty_at (by simp) (by simp)) B l.length _ (u8s l) rfl (SlB.below H0.out (((Below.refl _ _).alloc hB _).alloc (by simp; omega) _)) (u8s_one _) (by omega) (by unfold maxLen; omega) (by simp) ?_; intro v6 w1 own6 hg6 _; have b1 := below_app_empty_at hg6 (by simp); rw [Nat.zero_add, List.nil_append] at own6; have bb := below_step b1 ((Below.refl w.heap.size w).alloc (Nat.le_refl _) _); have k0 : w1.cell? ⟨w.heap.size, 0, none⟩ = some (.int .i64 3) := cell_later b1 (by simp [go_sem]); have k1 : w1.cell? ⟨w.heap.size, 1, none⟩ = some (.int .i64 p) := cell_later b1 (by simp [go_sem]); have k2 : w1.cell? ⟨w.heap.size, 2, none⟩ = some (.int .i64 0) := cell_later b1 (by simp [go_sem]); have hsz := bb.size; have hlt := World.block_lt_of_cell? w1 _ k0; clear hg6 b1) | (go_at_call 30; refine (l1In_any _ _ _ _).mono ?_; rintro e w' ⟨rfl, rfl⟩) | (go_at_call 31; refine (specSplice_yes _ _ l [] p 1 (w1.heap.size + 1) _ (SlB.more (SlB.below H0.out (Below.trans (bb.mono hB) ((Below.refl _ _).alloc (by omega) _))) (by omega)) (slb_none rfl) (by simp) (by omega) (by simp) (by omega)).mono ?_; rintro e w3 ⟨v3, rfl, own3, b3⟩))
                go_ret2
                exact ⟨v3, by rw [HO.out]; rfl, by rw [HM.out]; exact own_base own3 (by simp; omega), below_step b3 (bb.alloc (by omega) _)⟩
              · have hzb : (byte == 0) = false := beq_eq_false_iff_ne.2 hz
                have HO := Lib.hid (show mutOk l ⟨3, p, byte⟩ = false from HO1.out.trans (by simp [hz]))
                have HM := Lib.hid (mut_no l ⟨3, p, byte⟩ HO.out)
                clear hz
                go_enter Tryd.func17, Tryd.ntmps17
                go_wp2_with (first | (at_builtin; refine wpList_app _ rfl (.tmp 7) (.tmp 8) 35 rfl (w.heap.size + 1) 5 i0 (.int .u8 0) 1 1 Tryd.underlying35 hi hz0 hz1 hz2 rfl (by decide) _ 0 [] rfl (by exact own_empty_at (by simp) (by simp)) B l.length _ (u8s l) rfl (SlB.below H0.out (((Below.refl _ _).alloc hB _).alloc (by simp; omega) _)) (u8s_one _) (by omega) (by unfold maxLen; omega) (by simp) ?_; intro v6 w1 own6 hg6 _; have b1 := below_app_empty_at hg6 (by simp); rw [Nat.zero_add, List.nil_append] at own6; have bb := below_step b1 ((Below.refl w.heap.size w).alloc (Nat.le_refl _) _); have k0 : w1.cell? ⟨w.heap.size, 0, none⟩ = some (.int .i64 3) := cell_later b1 (by simp [go_sem]); have k1 : w1.cell? ⟨w.heap.size, 1, none⟩ = some (.int .i64 p) := cell_later b1 (by simp [go_sem]); have k2 : w1.cell? ⟨w.heap.size, 2, none⟩ = some (.int .i64 byte) := cell_later b1 (by simp [go_sem]); have hsz := bb.size; have hlt := World.block_lt_of_cell? w1 _ k0; clear hg6 b1) | (go_at_call 30; refine (l1In_any _ _ _ _).mono ?_; rintro e w' ⟨rfl, rfl⟩))
                go_ret2
                exact ⟨v6, by rw [HO.out]; rfl, by rw [HM.out]; exact own_base own6 (by omega), bb⟩
            · have hd : decide ((p : Int) < l.length) = false := decide_eq_false hlt
              have HO := Lib.hid (show mutOk l ⟨3, p, byte⟩ = false from HO1.out.trans (by simp [show ¬ p < l.length by omega]))
              have HM := Lib.hid (mut_no l ⟨3, p, byte⟩ HO.out)
              go_enter Tryd.func17, Tryd.ntmps17
              go_wp2_with (first | (at_builtin; refine wpList_app _ rfl (.tmp 7) (.tmp 8) 35 rfl (w.heap.size + 1) 5 i0 (.int .u8 0) 1 1 Tryd.underlying35 hi hz0 hz1 hz2 rfl (by decide) _ 0 [] rfl (by exact own_empty_at (by simp) (by simp)) B l.length _ (u8s l) rfl (SlB.below H0.out (((Below.refl _ _).alloc hB _).alloc (by simp; omega) _)) (u8s_one _) (by omega) (by unfold maxLen; omega) (by simp) ?_; intro v6 w1 own6 hg6 _; have b1 := below_app_empty_at hg6 (by simp); rw [Nat.zero_add, List.nil_append] at own6; have bb := below_step b1 ((Below.refl w.heap.size w).alloc (Nat.le_refl _) _); have k0 : w1.cell? ⟨w.heap.size, 0, none⟩ = some (.int .i64 3) := cell_later b1 (by simp [go_sem]); have k1 : w1.cell? ⟨w.heap.size, 1, none⟩ = some (.int .i64 p) := cell_later b1 (by simp [go_sem]); have k2 : w1.cell? ⟨w.heap.size, 2, none⟩ = some (.int .i64 byte) := cell_later b1 (by simp [go_sem]); have hsz := bb.size; have hlt := World.block_lt_of_cell? w1 _ k0; clear hg6 b1) | (go_at_call 30; refine (l1In_any _ _ _ _).mono ?_; rintro e w' ⟨rfl, rfl⟩))
              go_ret2
              exact ⟨v6, by rw [HO.out]; rfl, by rw [HM.out]; exact own_base own6 (by omega), bb⟩
          · have d3 : (kind == 3) = false := beq_eq_false_iff_ne.2 h3
            have HO := Lib.hid (show mutOk l ⟨kind, p, byte⟩ = false from HO1.out.trans (by simp [h1, h2, h3]))
            have HM := Lib.hid (mut_no l ⟨kind, p, byte⟩ HO.out)
            clear h1 h2 h3
            go_enter Tryd.func17, Tryd.ntmps17
            go_wp2_with (first | (at_builtin; refine wpList_app _ rfl (.tmp 7) (.tmp 8) 35 rfl (w.heap.size + 1) 5 i0 (.int .u8 0) 1 1 Tryd.underlying35 hi hz0 hz1 hz2 rfl (by decide) _ 0 [] rfl (by exact own_empty_at (by simp) (by simp)) B l.length _ (u8s l) rfl (SlB.below H0.out (((Below.refl _ _).alloc hB _).alloc (by simp; omega) _)) (u8s_one _) (by omega) (by unfold maxLen; omega) (by simp) ?_; intro v6 w1 own6 hg6 _; have b1 := below_app_empty_at hg6 (by simp); rw [Nat.zero_add, List.nil_append] at own6; have bb := below_step b1 ((Below.refl w.heap.size w).alloc (Nat.le_refl _) _); have k0 : w1.cell? ⟨w.heap.size, 0, none⟩ = some (.int .i64 kind) := cell_later b1 (by simp [go_sem]); have k1 : w1.cell? ⟨w.heap.size, 1, none⟩ = some (.int .i64 p) := cell_later b1 (by simp [go_sem]); have k2 : w1.cell? ⟨w.heap.size, 2, none⟩ = some (.int .i64 byte) := cell_later b1 (by simp [go_sem]); have hsz := bb.size; have hlt := World.block_lt_of_cell? w1 _ k0; clear hg6 b1) | (go_at_call 30; refine (l1In_any _ _ _ _).mono ?_; rintro e w' ⟨rfl, rfl⟩))
            go_ret2
            exact ⟨v6, by rw [HO.out]; rfl, by rw [HM.out]; exact own_base own6 (by omega), bb⟩
    · have hin2 := inB_false (x := pos) (a := 0) (b := (l.length : Int)) (by omega)
      have HO := Lib.hid (show mutOk l ⟨kind, pos, byte⟩ = false by
        unfold mutOk; simp only [Bool.and_eq_false_iff, Bool.or_eq_false_iff, decide_eq_false_iff_not]; omega)
      have HM := Lib.hid (mut_no l ⟨kind, pos, byte⟩ HO.out)
      clear hps HO0
      go_enter Tryd.func17, Tryd.ntmps17
      go_wp2_with (first | (at_builtin; refine wpList_app _ rfl (.tmp 7) (.tmp 8) 35 rfl (w.heap.size + 1) 5 i0 (.int .u8 0) 1 1 Tryd.underlying35 hi hz0 hz1 hz2 rfl (by decide) _ 0 [] rfl (by exact own_empty_at (by simp) (by simp)) B l.length _ (u8s l) rfl (SlB.below H0.out (((Below.refl _ _).alloc hB _).alloc (by simp; omega) _)) (u8s_one _) (by omega) (by unfold maxLen; omega) (by simp) ?_; intro v6 w1 own6 hg6 _; have b1 := below_app_empty_at hg6 (by simp); rw [Nat.zero_add, List.nil_append] at own6; have bb := below_step b1 ((Below.refl w.heap.size w).alloc (Nat.le_refl _) _); have k0 : w1.cell? ⟨w.heap.size, 0, none⟩ = some (.int .i64 kind) := cell_later b1 (by simp [go_sem]); have k1 : w1.cell? ⟨w.heap.size, 1, none⟩ = some (.int .i64 pos) := cell_later b1 (by simp [go_sem]); have k2 : w1.cell? ⟨w.heap.size, 2, none⟩ = some (.int .i64 byte) := cell_later b1 (by simp [go_sem]); have hsz := bb.size; have hlt := World.block_lt_of_cell? w1 _ k0; clear hg6 b1) | (go_at_call 30; refine (l1In_any _ _ _ _).mono ?_; rintro e w' ⟨rfl, rfl⟩))
      go_ret2
      exact ⟨v6, by rw [HO.out]; rfl, by rw [HM.out]; exact own_base own6 (by omega), bb⟩
  · have hin := inB_false (x := byte) (a := 0) (b := 255) (by omega)
    have HO := Lib.hid (show mutOk l ⟨kind, pos, byte⟩ = false by
      unfold mutOk; simp only [Bool.and_eq_false_iff, Bool.or_eq_false_iff, decide_eq_false_iff_not]; omega)
    have HM := Lib.hid (mut_no l ⟨kind, pos, byte⟩ HO.out)
    clear hby HO0
    go_enter Tryd.func17, Tryd.ntmps17
    go_wp2_with (first | (at_builtin; refine wpList_app _ rfl (.tmp 7) (.tmp 8) 35 rfl (w.heap.size + 1) 5 i0 (.int .u8 0) 1 1 Tryd.underlying35 hi hz0 hz1 hz2 rfl (by decide) _ 0 [] rfl (by exact own_empty_at (by simp) (by simp)) B l.length _ (u8s l) rfl (SlB.below H0.out (((Below.refl _ _).alloc hB _).alloc (by simp; omega) _)) (u8s_one _) (by omega) (by unfold maxLen; omega) (by simp) ?_; intro v6 w1 own6 hg6 _; have b1 := below_app_empty_at hg6 (by simp); rw [Nat.zero_add, List.nil_append] at own6; have bb := below_step b1 ((Below.refl w.heap.size w).alloc (Nat.le_refl _) _); have k0 : w1.cell? ⟨w.heap.size, 0, none⟩ = some (.int .i64 kind) := cell_later b1 (by simp [go_sem]); have k1 : w1.cell? ⟨w.heap.size, 1, none⟩ = some (.int .i64 pos) := cell_later b1 (by simp [go_sem]); have k2 : w1.cell? ⟨w.heap.size, 2, none⟩ = some (.int .i64 byte) := cell_later b1 (by simp [go_sem]); have hsz := bb.size; have hlt := World.block_lt_of_cell? w1 _ k0; clear hg6 b1) | (go_at_call 30; refine (l1In_any _ _ _ _).mono ?_; rintro e w' ⟨rfl, rfl⟩))
    go_ret2
    exact ⟨v6, by rw [HO.out]; rfl, by rw [HM.out]; exact own_base own6 (by omega), bb⟩

end Go.Proofs.YtopplnfjdgoaaaaDoor
