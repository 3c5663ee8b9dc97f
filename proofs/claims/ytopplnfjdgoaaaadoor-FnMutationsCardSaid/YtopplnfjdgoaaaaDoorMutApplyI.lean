/- The walk of impl.ApplyMutation. Conditions: the slice reads as a list of at most 2^21 bytes, the mutation's numbers are ints. -/
import Derived.Test.YtopplnfjdgoaaaaDoorMutApply
namespace Go.Proofs.YtopplnfjdgoaaaaDoor
open Go.RowKit

theorem u8s_set (l : List UInt8) (k : Nat) (z : Int) (h0 : 0 ≤ z) (h1 : z ≤ 255) (hk : k < l.length) : (u8s l).set k (.int .u8 z) = u8s (spliceL l k 1 [UInt8.ofNat z.toNat]) := by
  have e : (.int .u8 z : Value) = u8v (UInt8.ofNat z.toNat) := by
    have : ((UInt8.ofNat z.toNat).toNat : Int) = z := by rw [UInt8.toNat_ofNat']; omega
    rw [u8v, this]
  rw [e, u8s, ← List.map_set, spliceL, ← u8s, List.set_eq_take_append_cons_drop, if_pos hk]
  simp
theorem splice1_len (l : List UInt8) (k : Nat) (c : UInt8) (hk : k < l.length) : (spliceL l k 1 [c]).length = l.length := by simp [spliceL]; omega
theorem keyV_any (a b c : Int) (w : World) :
    Calls Tryd.prog 29 #[.agg #[.int .i64 a, .int .i64 b, .int .i64 c]] w fun x w' => x = .returned (.agg #[.int .i64 a, .int .i64 b, .int .i64 c]) ∧ Below w.heap.size w w' := by
  go_enter Tryd.func29, Tryd.ntmps29
  go_wp2
  refine bodyPost_ret (v := .agg #[.int .i64 a, .int .i64 b, .int .i64 c]) (by simp [results, Tryd.results29, go_sem]) rfl ⟨rfl, ?_⟩
  exact (by repeat (first | exact Below.refl _ _ | assumption | refine Below.alloc ?_ (by first | omega | (simp <;> omega)) _ | refine Below.setCell ?_ (by first | omega | (simp <;> omega)) _ | refine Below.drew ?_ | refine below_drewN ?_ _))

theorem int_some : (Tryd.prog.info? 3).isSome = true := by kernel_rfl
theorem int_cells : Tryd.prog.cellsOf 3 = 1 := by kernel_rfl
theorem guard_key : Tryd.prog.eqGuardType Tryd.prog.depth 54 = false := by kernel_rfl
theorem eqKey (a b c a' b' c' : Int) (w : World) : (binOp .eql 54 (.agg #[.int .i64 a, .int .i64 b, .int .i64 c]) (.agg #[.int .i64 a', .int .i64 b', .int .i64 c'])).run Tryd.prog w = .ok (.bool (a == a' && (b == b' && c == c'))) w := by
  obtain ⟨i, hi⟩ := Option.isSome_iff_exists.1 int_some
  rw [run_eql_struct, run_equalIn_array w 9999 _ _ Tryd.underlying54 hi, int_cells]
  simp [go_sem, List.range, List.range.loop, Op.eqItems, Tryd.isAgg3]
  repeat (first | rfl | (split <;> simp_all))

set_option maxHeartbeats 4000000 in
set_option maxRecDepth 100000 in
theorem implApply_any (v : Value) (l : List UInt8) (m : Muta) (B : Nat) (w : World) (h : SlB w B v l) (hB : B ≤ w.heap.size) (hl : l.length ≤ 2097152) (hm : m.ok) :
    Calls Tryd.prog 15 #[v, mutV m] w (FreshB w (mutL l m) (mutOk l m)) := by
  obtain ⟨i0, hi, hz0, hz1, hz2⟩ := info_parts Tryd.info_u8
  have H0 := Lib.hid h
  obtain ⟨A, c, rfl, hc, hcm, hcell⟩ := h.open_
  unfold maxLen at hcm
  clear hcell h
  obtain ⟨kind, pos, byte⟩ := m
  obtain ⟨⟨hk0, hk1⟩, ⟨hp0, hp1⟩, ⟨hb0, hb1⟩⟩ := hm
  dsimp only at *
  unfold mutV
  dsimp only
  by_cases hp : pos < 0
  · have hd0 : decide (pos < 0) = true := decide_eq_true hp
    have HO := Lib.hid (show mutOk l ⟨kind, pos, byte⟩ = false by
      unfold mutOk; simp only [Bool.and_eq_false_iff, Bool.or_eq_false_iff, decide_eq_false_iff_not]; omega)
    have HM := Lib.hid (mut_no l ⟨kind, pos, byte⟩ HO.out)
    go_enter Tryd.func15, Tryd.ntmps15
    go_wp2_with (first | (at_builtin; refine wpList_app _ rfl (.tmp 7) (.tmp 8) 35 rfl (w.heap.size + 1) 5 i0 (.int .u8 0) 1 1 Tryd.underlying35 hi hz0 hz1 hz2 rfl (by decide) _ 0 [] rfl (by exact own_empty_at (by simp) (by simp)) B l.length _ (u8s l) rfl (SlB.below H0.out (((Below.refl _ _).alloc hB _).alloc (by simp; omega) _)) (u8s_one _) (by omega) (by unfold maxLen; omega) (by simp) ?_; intro v6 w1 own6 hg6 _; have b1 := below_app_empty_at hg6 (by simp); rw [Nat.zero_add, List.nil_append] at own6; have bb := below_step b1 ((Below.refl w.heap.size w).alloc (Nat.le_refl _) _); have k0 : w1.cell? ⟨w.heap.size, 0, none⟩ = some (.int .i64 kind) := cell_later b1 (by simp [go_sem]); have k1 : w1.cell? ⟨w.heap.size, 1, none⟩ = some (.int .i64 pos) := cell_later b1 (by simp [go_sem]); have k2 : w1.cell? ⟨w.heap.size, 2, none⟩ = some (.int .i64 byte) := cell_later b1 (by simp [go_sem]); have hsz := bb.size; have hlt := World.block_lt_of_cell? w1 _ k0; clear hg6 b1) | (go_at_call 27; refine (InRange_any _ _ _ _).mono ?_; rintro e w' ⟨rfl, rfl⟩))
    go_ret2
    exact ⟨v6, by rw [HO.out]; rfl, by rw [HM.out]; exact own_base own6 (by omega), bb⟩
  obtain ⟨p, rfl⟩ := Int.eq_ofNat_of_zero_le (show 0 ≤ pos by omega)
  have hd0 : decide ((p : Int) < 0) = false := decide_eq_false (by omega)
  by_cases hby : 0 ≤ byte ∧ byte ≤ 255
  · have hin := inB_true hby.1 hby.2
    have HO1 := Lib.hid (show mutOk l ⟨kind, p, byte⟩ = ((decide (kind = 1) && decide (p < l.length)) || ((decide (kind = 2) && decide (p ≤ l.length)) || (decide (kind = 3) && (decide (p < l.length) && decide (byte = 0))))) by
      simp [mutOk, hby.1, hby.2])
    obtain ⟨hby0, hby1⟩ := hby
    by_cases h1 : kind = 1
    · subst h1
      by_cases hlt : (p : Int) < l.length
      · have HO := Lib.hid (show mutOk l ⟨1, p, byte⟩ = true from HO1.out.trans (by simp [show p < l.length by omega]))
        have HM := Lib.hid (show mutL l ⟨1, p, byte⟩ = spliceL l p 1 [UInt8.ofNat byte.toNat] by rw [mutL, HO.out]; simp)
        have hd : decide ((p : Int) < l.length) = true := decide_eq_true hlt
        have hlt2 : p < l.length := by omega
        have HS := Lib.hid (u8s_set l p byte hby0 hby1 hlt2)
        have HSL := Lib.hid (splice1_len l p (UInt8.ofNat byte.toNat) hlt2)
        go_enter Tryd.func15, Tryd.ntmps15
        go_wp2_with (first | (at_builtin; refine wpList_app _ rfl (.tmp 7) (.tmp 8) 35 rfl (w.heap.size + 1) 5 i0 (.int .u8 0) 1 1 Tryd.underlying35 hi hz0 hz1 hz2 rfl (by decide) _ 0 [] rfl (by exact own_empty_at (by simp) (by simp)) B l.length _ (u8s l) rfl (SlB.below H0.out (((Below.refl _ _).alloc hB _).alloc (by simp; omega) _)) (u8s_one _) (by omega) (by unfold maxLen; omega) (by simp) ?_; intro v6 w1 own6 hg6 _; have b1 := below_app_empty_at hg6 (by simp); rw [Nat.zero_add, List.nil_append] at own6; have bb := below_step b1 ((Below.refl w.heap.size w).alloc (Nat.le_refl _) _); have k0 : w1.cell? ⟨w.heap.size, 0, none⟩ = some (.int .i64 1) := cell_later b1 (by simp [go_sem]); have k1 : w1.cell? ⟨w.heap.size, 1, none⟩ = some (.int .i64 p) := cell_later b1 (by simp [go_sem]); have k2 : w1.cell? ⟨w.heap.size, 2, none⟩ = some (.int .i64 byte) := cell_later b1 (by simp [go_sem]); have hsz := bb.size; have hlt := World.block_lt_of_cell? w1 _ k0; clear hg6 b1; obtain ⟨g, cap, rfl, hgb, hgl⟩ := own6.form (by omega); have hfz := own6.frozenAt p; obtain ⟨u, hu⟩ : ∃ u, w1.cell? ⟨g, p, none⟩ = some u := ⟨_, by rw [own6.cellAt p (by omega)]; exact List.getElem?_eq_getElem (by rw [own6.1]; omega)⟩; have hst := own6.stored p (.int .u8 byte); rw [HS.out] at hst; have HST := Lib.hid (And.intro hst.1 (bb.setCell (p := ⟨g, p, none⟩) (by simp; omega) (.int .u8 byte))); clear hst own6 bb) | (go_at_call 27; refine (InRange_any _ _ _ _).mono ?_; rintro e w' ⟨rfl, rfl⟩))
        go_ret2
        exact ⟨_, by rw [HO.out]; rfl, by rw [HM.out, HSL.out]; exact own_base HST.out.1 (by omega), HST.out.2⟩
      · have HO := Lib.hid (show mutOk l ⟨1, p, byte⟩ = false from HO1.out.trans (by simp [show ¬ p < l.length by omega]))
        have hd : decide ((p : Int) < l.length) = false := decide_eq_false hlt
        have HM := Lib.hid (mut_no l ⟨1, p, byte⟩ HO.out)
        go_enter Tryd.func15, Tryd.ntmps15
        go_wp2_with (first | (at_builtin; refine wpList_app _ rfl (.tmp 7) (.tmp 8) 35 rfl (w.heap.size + 1) 5 i0 (.int .u8 0) 1 1 Tryd.underlying35 hi hz0 hz1 hz2 rfl (by decide) _ 0 [] rfl (by exact own_empty_at (by simp) (by simp)) B l.length _ (u8s l) rfl (SlB.below H0.out (((Below.refl _ _).alloc hB _).alloc (by simp; omega) _)) (u8s_one _) (by omega) (by unfold maxLen; omega) (by simp) ?_; intro v6 w1 own6 hg6 _; have b1 := below_app_empty_at hg6 (by simp); rw [Nat.zero_add, List.nil_append] at own6; have bb := below_step b1 ((Below.refl w.heap.size w).alloc (Nat.le_refl _) _); have k0 : w1.cell? ⟨w.heap.size, 0, none⟩ = some (.int .i64 1) := cell_later b1 (by simp [go_sem]); have k1 : w1.cell? ⟨w.heap.size, 1, none⟩ = some (.int .i64 p) := cell_later b1 (by simp [go_sem]); have k2 : w1.cell? ⟨w.heap.size, 2, none⟩ = some (.int .i64 byte) := cell_later b1 (by simp [go_sem]); have hsz := bb.size; have hlt := World.block_lt_of_cell? w1 _ k0; clear hg6 b1) | (go_at_call 27; refine (InRange_any _ _ _ _).mono ?_; rintro e w' ⟨rfl, rfl⟩))
        go_ret2
        exact ⟨v6, by rw [HO.out]; rfl, by rw [HM.out]; exact own_base own6 (by omega), bb⟩
    · have d1 : (kind == 1) = false := beq_eq_false_iff_ne.2 h1
      by_cases h2 : kind = 2
      · subst h2
        clear h1
        by_cases hle : (p : Int) ≤ l.length
        · have hd : decide ((p : Int) ≤ l.length) = true := decide_eq_true hle
          have hpl : p ≤ l.length := by omega
          have HO := Lib.hid (show mutOk l ⟨2, p, byte⟩ = true from HO1.out.trans (by simp [hpl]))
          have HM := Lib.hid (show mutL l ⟨2, p, byte⟩ = spliceL l p 0 [UInt8.ofNat byte.toNat] by rw [mutL, HO.out]; simp)
          go_enter Tryd.func15, Tryd.ntmps15
          go_wp2_with (first | (at_builtin; refine wpList_app _ rfl (.tmp 7) (.tmp 8) 35 rfl (w.heap.size + 1) 5 i0 (.int .u8 0) 1 1 Tryd.underlying35 hi hz0 hz1 hz2 rfl (by decide) _ 0 [] rfl (by exact own_empty_at (by simp) (by simp)) B l.length _ (u8s l) rfl (SlB.below H0.out (((Below.refl _ _).alloc hB _).alloc (by simp; omega) _)) (u8s_one _) (by omega) (by unfold maxLen; omega) (by simp) ?_; intro v6 w1 own6 hg6 _; have b1 := below_app_empty_at hg6 (by simp); rw [Nat.zero_add, List.nil_append] at own6; have bb := below_step b1 ((Below.refl w.heap.size w).alloc (Nat.le_refl _) _); have k0 : w1.cell? ⟨w.heap.size, 0, none⟩ = some (.int .i64 2) := cell_later b1 (by simp [go_sem]); have k1 : w1.cell? ⟨w.heap.size, 1, none⟩ = some (.int .i64 p) := cell_later b1 (by simp [go_sem]); have k2 : w1.cell? ⟨w.heap.size, 2, none⟩ = some (.int .i64 byte) := cell_later b1 (by simp [go_sem]); have hsz := bb.size; have hlt := World.block_lt_of_cell? w1 _ k0; clear hg6 b1) | (go_at_call 27; refine (InRange_any _ _ _ _).mono ?_; rintro e w' ⟨rfl, rfl⟩) | (go_at_call 28; refine (implSplice_yes _ _ l [UInt8.ofNat byte.toNat] p 0 (w1.heap.size + 1) _ (SlB.more (SlB.below H0.out (Below.trans (bb.mono hB) ((Below.refl _ _).alloc (by omega) _))) (by omega)) (slb_one hby0 hby1 rfl) (by simp) (by omega) (by simp) (by omega)).mono ?_; rintro e w3 ⟨v3, rfl, own3, b3⟩))
          go_ret2
          exact ⟨v3, by rw [HO.out]; rfl, by rw [HM.out]; exact own_base own3 (by simp; omega), below_step b3 (bb.alloc (by omega) _)⟩
        · have hd : decide ((p : Int) ≤ l.length) = false := decide_eq_false hle
          have HO := Lib.hid (show mutOk l ⟨2, p, byte⟩ = false from HO1.out.trans (by simp [show ¬ p ≤ l.length by omega]))
          have HM := Lib.hid (mut_no l ⟨2, p, byte⟩ HO.out)
          go_enter Tryd.func15, Tryd.ntmps15
          go_wp2_with (first | (at_builtin; refine wpList_app _ rfl (.tmp 7) (.tmp 8) 35 rfl (w.heap.size + 1) 5 i0 (.int .u8 0) 1 1 Tryd.underlying35 hi hz0 hz1 hz2 rfl (by decide) _ 0 [] rfl (by exact own_empty_at (by simp) (by simp)) B l.length _ (u8s l) rfl (SlB.below H0.out (((Below.refl _ _).alloc hB _).alloc (by simp; omega) _)) (u8s_one _) (by omega) (by unfold maxLen; omega) (by simp) ?_; intro v6 w1 own6 hg6 _; have b1 := below_app_empty_at hg6 (by simp); rw [Nat.zero_add, List.nil_append] at own6; have bb := below_step b1 ((Below.refl w.heap.size w).alloc (Nat.le_refl _) _); have k0 : w1.cell? ⟨w.heap.size, 0, none⟩ = some (.int .i64 2) := cell_later b1 (by simp [go_sem]); have k1 : w1.cell? ⟨w.heap.size, 1, none⟩ = some (.int .i64 p) := cell_later b1 (by simp [go_sem]); have k2 : w1.cell? ⟨w.heap.size, 2, none⟩ = some (.int .i64 byte) := cell_later b1 (by simp [go_sem]); have hsz := bb.size; have hlt := World.block_lt_of_cell? w1 _ k0; clear hg6 b1) | (go_at_call 27; refine (InRange_any _ _ _ _).mono ?_; rintro e w' ⟨rfl, rfl⟩))
          go_ret2
          exact ⟨v6, by rw [HO.out]; rfl, by rw [HM.out]; exact own_base own6 (by omega), bb⟩
      · have d2 : (kind == 2) = false := beq_eq_false_iff_ne.2 h2
        by_cases h3 : kind = 3
        · subst h3
          clear h1 h2
          by_cases hlt : (p : Int) < l.length
          · have hd : decide ((p : Int) < l.length) = true := decide_eq_true hlt
            have hpl : p < l.length := by omega
            by_cases hzz : byte = 0
            · subst hzz
              have HO := Lib.hid (show mutOk l ⟨3, p, 0⟩ = true from HO1.out.trans (by simp [hpl]))
              have HM := Lib.hid (show mutL l ⟨3, p, 0⟩ = spliceL l p 1 [] by rw [mutL, HO.out]; simp)
              go_enter Tryd.func15, Tryd.ntmps15
              go_wp2_with (first | (at_builtin; refine wpList_app _ rfl (.tmp 7) (.tmp 8) 35 rfl (w.heap.size + 1) 5 i0 (.int .u8 0) 1 1 Tryd.underlying35 hi hz0 hz1 hz2 rfl (by decide) _ 0 [] rfl (by exact own_empty_at (by simp) (by simp)) B l.length _ (u8s l) rfl (SlB.below H0.out (((Below.refl _ _).alloc hB _).alloc (by simp; omega) _)) (u8s_one _) (by omega) (by unfold maxLen; omega) (by simp) ?_; intro v6 w1 own6 hg6 _; have b1 := below_app_empty_at hg6 (by simp); rw [Nat.zero_add, List.nil_append] at own6; have bb := below_step b1 ((Below.refl w.heap.size w).alloc (Nat.le_refl _) _); have k0 : w1.cell? ⟨w.heap.size, 0, none⟩ = some (.int .i64 3) := cell_later b1 (by simp [go_sem]); have k1 : w1.cell? ⟨w.heap.size, 1, none⟩ = some (.int .i64 p) := cell_later b1 (by simp [go_sem]); have k2 : w1.cell? ⟨w.heap.size, 2, none⟩ = some (.int .i64 0) := cell_later b1 (by simp [go_sem]); have hsz := bb.size; have hlt := World.block_lt_of_cell? w1 _ k0; clear hg6 b1) | (go_at_call 27; refine (InRange_any _ _ _ _).mono ?_; rintro e w' ⟨rfl, rfl⟩))
              have HKEY : ∀ W : World, (binOp .eql 54 (.agg #[.int .i64 3, .int .i64 p, .int .i64 0]) (.agg #[.int .i64 3, .int .i64 p, .int .i64 0])).run Tryd.prog W = .ok (.bool true) W := fun W => by rw [eqKey]; simp
              have hgd := guard_key
              go_region_held3 (fun w' => w'.cell? ⟨w.heap.size, 0, none⟩ = some (.int .i64 3) ∧ w'.cell? ⟨w.heap.size, 1, none⟩ = some (.int .i64 p) ∧ w'.cell? ⟨w.heap.size, 2, none⟩ = some (.int .i64 0))
                (first | exact ⟨k0, k1, k2⟩ | exact ⟨cell_later bk k0, cell_later bk k1, cell_later bk k2⟩)
                (first | (go_at_call 29; refine (keyV_any 3 p 0 _).mono ?_; rintro e w2 ⟨rfl, bk⟩))
              go_wp2_with fail
              refine (implSplice_yes _ _ l [] p 1 B _ (SlB.below H0.out ((below_step bk bb.drew).mono hB)) (Sl.nil _ _ _) (by have := bk.size; have : w1.drew.heap.size = w1.heap.size := rfl; omega) (by omega) (by simp) (by omega)).mono ?_
              rintro e w3 ⟨v3, rfl, own3, b3⟩
              go_wp2
              go_ret2
              exact ⟨v3, by rw [HO.out]; rfl, by rw [HM.out]; exact own_base own3 (by have := bk.size; have : w1.drew.heap.size = w1.heap.size := rfl; omega), below_step b3 (below_step bk bb.drew)⟩
            · have HO := Lib.hid (show mutOk l ⟨3, p, byte⟩ = false from HO1.out.trans (by simp [hzz]))
              have HM := Lib.hid (mut_no l ⟨3, p, byte⟩ HO.out)
              go_enter Tryd.func15, Tryd.ntmps15
              go_wp2_with (first | (at_builtin; refine wpList_app _ rfl (.tmp 7) (.tmp 8) 35 rfl (w.heap.size + 1) 5 i0 (.int .u8 0) 1 1 Tryd.underlying35 hi hz0 hz1 hz2 rfl (by decide) _ 0 [] rfl (by exact own_empty_at (by simp) (by simp)) B l.length _ (u8s l) rfl (SlB.below H0.out (((Below.refl _ _).alloc hB _).alloc (by simp; omega) _)) (u8s_one _) (by omega) (by unfold maxLen; omega) (by simp) ?_; intro v6 w1 own6 hg6 _; have b1 := below_app_empty_at hg6 (by simp); rw [Nat.zero_add, List.nil_append] at own6; have bb := below_step b1 ((Below.refl w.heap.size w).alloc (Nat.le_refl _) _); have k0 : w1.cell? ⟨w.heap.size, 0, none⟩ = some (.int .i64 3) := cell_later b1 (by simp [go_sem]); have k1 : w1.cell? ⟨w.heap.size, 1, none⟩ = some (.int .i64 p) := cell_later b1 (by simp [go_sem]); have k2 : w1.cell? ⟨w.heap.size, 2, none⟩ = some (.int .i64 byte) := cell_later b1 (by simp [go_sem]); have hsz := bb.size; have hlt := World.block_lt_of_cell? w1 _ k0; clear hg6 b1) | (go_at_call 27; refine (InRange_any _ _ _ _).mono ?_; rintro e w' ⟨rfl, rfl⟩))
              have HKEY : ∀ W : World, (binOp .eql 54 (.agg #[.int .i64 3, .int .i64 p, .int .i64 byte]) (.agg #[.int .i64 3, .int .i64 p, .int .i64 0])).run Tryd.prog W = .ok (.bool false) W := fun W => by rw [eqKey]; simp [hzz]
              have hgd := guard_key
              go_region_held3 (fun w' => w'.cell? ⟨w.heap.size, 0, none⟩ = some (.int .i64 3) ∧ w'.cell? ⟨w.heap.size, 1, none⟩ = some (.int .i64 p) ∧ w'.cell? ⟨w.heap.size, 2, none⟩ = some (.int .i64 byte))
                (first | exact ⟨k0, k1, k2⟩ | exact ⟨cell_later bk k0, cell_later bk k1, cell_later bk k2⟩)
                (first | (go_at_call 29; refine (keyV_any 3 p byte _).mono ?_; rintro e w2 ⟨rfl, bk⟩))
              go_wp2
              go_ret2
              exact ⟨v6, by rw [HO.out]; rfl, by rw [HM.out]; exact own_base (own_below own6 (below_step bk ((Below.refl _ _).drew)) (Nat.le_refl _)) (by omega), below_step bk bb.drew⟩
          · have hd : decide ((p : Int) < l.length) = false := decide_eq_false hlt
            have HO := Lib.hid (show mutOk l ⟨3, p, byte⟩ = false from HO1.out.trans (by simp [show ¬ p < l.length by omega]))
            have HM := Lib.hid (mut_no l ⟨3, p, byte⟩ HO.out)
            go_enter Tryd.func15, Tryd.ntmps15
            go_wp2_with (first | (at_builtin; refine wpList_app _ rfl (.tmp 7) (.tmp 8) 35 rfl (w.heap.size + 1) 5 i0 (.int .u8 0) 1 1 Tryd.underlying35 hi hz0 hz1 hz2 rfl (by decide) _ 0 [] rfl (by exact own_empty_at (by simp) (by simp)) B l.length _ (u8s l) rfl (SlB.below H0.out (((Below.refl _ _).alloc hB _).alloc (by simp; omega) _)) (u8s_one _) (by omega) (by unfold maxLen; omega) (by simp) ?_; intro v6 w1 own6 hg6 _; have b1 := below_app_empty_at hg6 (by simp); rw [Nat.zero_add, List.nil_append] at own6; have bb := below_step b1 ((Below.refl w.heap.size w).alloc (Nat.le_refl _) _); have k0 : w1.cell? ⟨w.heap.size, 0, none⟩ = some (.int .i64 3) := cell_later b1 (by simp [go_sem]); have k1 : w1.cell? ⟨w.heap.size, 1, none⟩ = some (.int .i64 p) := cell_later b1 (by simp [go_sem]); have k2 : w1.cell? ⟨w.heap.size, 2, none⟩ = some (.int .i64 byte) := cell_later b1 (by simp [go_sem]); have hsz := bb.size; have hlt := World.block_lt_of_cell? w1 _ k0; clear hg6 b1) | (go_at_call 27; refine (InRange_any _ _ _ _).mono ?_; rintro e w' ⟨rfl, rfl⟩))
            have hd : decide ((p : Int) < l.length) = false := decide_eq_false (by omega)
            have hdn : decide (p < l.length) = false := decide_eq_false (by omega)
            go_quiet (fail)
            go_wp2
            go_ret2
            exact ⟨v6, by rw [HO.out]; rfl, by rw [HM.out]; exact own_base own6 (by omega), below_drewN bb _⟩
        · have d3 : (kind == 3) = false := beq_eq_false_iff_ne.2 h3
          have HO := Lib.hid (show mutOk l ⟨kind, p, byte⟩ = false from HO1.out.trans (by simp [h1, h2, h3]))
          have HM := Lib.hid (mut_no l ⟨kind, p, byte⟩ HO.out)
          clear h1 h2 h3
          go_enter Tryd.func15, Tryd.ntmps15
          go_wp2_with (first | (at_builtin; refine wpList_app _ rfl (.tmp 7) (.tmp 8) 35 rfl (w.heap.size + 1) 5 i0 (.int .u8 0) 1 1 Tryd.underlying35 hi hz0 hz1 hz2 rfl (by decide) _ 0 [] rfl (by exact own_empty_at (by simp) (by simp)) B l.length _ (u8s l) rfl (SlB.below H0.out (((Below.refl _ _).alloc hB _).alloc (by simp; omega) _)) (u8s_one _) (by omega) (by unfold maxLen; omega) (by simp) ?_; intro v6 w1 own6 hg6 _; have b1 := below_app_empty_at hg6 (by simp); rw [Nat.zero_add, List.nil_append] at own6; have bb := below_step b1 ((Below.refl w.heap.size w).alloc (Nat.le_refl _) _); have k0 : w1.cell? ⟨w.heap.size, 0, none⟩ = some (.int .i64 kind) := cell_later b1 (by simp [go_sem]); have k1 : w1.cell? ⟨w.heap.size, 1, none⟩ = some (.int .i64 p) := cell_later b1 (by simp [go_sem]); have k2 : w1.cell? ⟨w.heap.size, 2, none⟩ = some (.int .i64 byte) := cell_later b1 (by simp [go_sem]); have hsz := bb.size; have hlt := World.block_lt_of_cell? w1 _ k0; clear hg6 b1) | (go_at_call 27; refine (InRange_any _ _ _ _).mono ?_; rintro e w' ⟨rfl, rfl⟩))
          go_ret2
          exact ⟨v6, by rw [HO.out]; rfl, by rw [HM.out]; exact own_base own6 (by omega), bb⟩
  · have hin := inB_false (x := byte) (a := 0) (b := 255) (by omega)
    have HO := Lib.hid (show mutOk l ⟨kind, p, byte⟩ = false by
      unfold mutOk; simp only [Bool.and_eq_false_iff, Bool.or_eq_false_iff, decide_eq_false_iff_not]; omega)
    have HM := Lib.hid (mut_no l ⟨kind, p, byte⟩ HO.out)
    clear hby
    go_enter Tryd.func15, Tryd.ntmps15
    go_wp2_with (first | (at_builtin; refine wpList_app _ rfl (.tmp 7) (.tmp 8) 35 rfl (w.heap.size + 1) 5 i0 (.int .u8 0) 1 1 Tryd.underlying35 hi hz0 hz1 hz2 rfl (by decide) _ 0 [] rfl (by exact own_empty_at (by simp) (by simp)) B l.length _ (u8s l) rfl (SlB.below H0.out (((Below.refl _ _).alloc hB _).alloc (by simp; omega) _)) (u8s_one _) (by omega) (by unfold maxLen; omega) (by simp) ?_; intro v6 w1 own6 hg6 _; have b1 := below_app_empty_at hg6 (by simp); rw [Nat.zero_add, List.nil_append] at own6; have bb := below_step b1 ((Below.refl w.heap.size w).alloc (Nat.le_refl _) _); have k0 : w1.cell? ⟨w.heap.size, 0, none⟩ = some (.int .i64 kind) := cell_later b1 (by simp [go_sem]); have k1 : w1.cell? ⟨w.heap.size, 1, none⟩ = some (.int .i64 p) := cell_later b1 (by simp [go_sem]); have k2 : w1.cell? ⟨w.heap.size, 2, none⟩ = some (.int .i64 byte) := cell_later b1 (by simp [go_sem]); have hsz := bb.size; have hlt := World.block_lt_of_cell? w1 _ k0; clear hg6 b1) | (go_at_call 27; refine (InRange_any _ _ _ _).mono ?_; rintro e w' ⟨rfl, rfl⟩))
    go_ret2
    exact ⟨v6, by rw [HO.out]; rfl, by rw [HM.out]; exact own_base own6 (by omega), bb⟩

end Go.Proofs.YtopplnfjdgoaaaaDoor
