/- splitWith at the pattern's function: a range over stepsOf; and the function. Condition: the text has at most 2^21 bytes. -/
import Derived.Test.YtglminmoglncpaaRfPath
namespace Go.Proofs.Ytglminmoglncpaa
open Go.RowKit Go.Shelf
attribute [local go_sem] Oper.semAt_some
/-- A part of a pattern. -/
def isPat (s : ByteArray) : Bool := isStep s || (s.toList == [35] || s.toList == [46, 46])
theorem isPat_cases (y : ByteArray) : (isStep y = true ∧ isPat y = true) ∨ (isStep y = false ∧ (y.toList == [35]) = true ∧ isPat y = true) ∨ (isStep y = false ∧ (y.toList == [35]) = false ∧ (y.toList == [46, 46]) = true ∧ isPat y = true) ∨ (isStep y = false ∧ (y.toList == [35]) = false ∧ (y.toList == [46, 46]) = false ∧ isPat y = false) := by
  unfold isPat
  cases isStep y <;> cases (y.toList == [35]) <;> cases (y.toList == [46, 46]) <;> simp
theorem implPat_any (s : ByteArray) (w : World) (hs : s.size ≤ maxLen) :
    Calls Try.prog 50 #[.string s] w fun e w' => e = .returned (.bool (isPat s)) ∧ Below w.heap.size w w' := by
  cases h1 : isStep s
  · cases h2 : (s.toList == [35])
    · cases h3 : (s.toList == [46, 46])
      · have H := Lib.hid (show isPat s = false by rw [isPat, h1, h2, h3]; rfl)
        have H1 := Lib.hid h1
        clear h1
        go_enter Try.func50, Try.ntmps50
        go_wp2_with fail
        refine (implIsStep_any s _ hs).mono ?_
        rintro e w2 ⟨rfl, hb⟩
        rw [H1.out]
        go_wp2
        go_ret
        exact ⟨ret_bool H.out.symm, hb⟩
      · have H := Lib.hid (show isPat s = true by rw [isPat, h1, h2, h3]; rfl)
        have H1 := Lib.hid h1
        clear h1
        go_enter Try.func50, Try.ntmps50
        go_wp2_with fail
        refine (implIsStep_any s _ hs).mono ?_
        rintro e w2 ⟨rfl, hb⟩
        rw [H1.out]
        go_wp2
        go_ret
        exact ⟨ret_bool H.out.symm, hb⟩
    · have H := Lib.hid (show isPat s = true by rw [isPat, h1, h2]; rfl)
      have H1 := Lib.hid h1
      clear h1
      go_enter Try.func50, Try.ntmps50
      go_wp2_with fail
      refine (implIsStep_any s _ hs).mono ?_
      rintro e w2 ⟨rfl, hb⟩
      rw [H1.out]
      go_wp2
      go_ret
      exact ⟨ret_bool H.out.symm, hb⟩
  · have H := Lib.hid (show isPat s = true by rw [isPat, h1]; rfl)
    have H1 := Lib.hid h1
    clear h1
    go_enter Try.func50, Try.ntmps50
    go_wp2_with fail
    refine (implIsStep_any s _ hs).mono ?_
    rintro e w2 ⟨rfl, hb⟩
    rw [H1.out]
    go_wp2
    go_ret
    exact ⟨ret_bool H.out.symm, hb⟩
set_option maxRecDepth 100000 in
set_option maxHeartbeats 4000000 in
theorem splitWithQ_any (s : ByteArray) (w : World) (hs : s.size ≤ 2097152) :
    Calls Try.prog 29 #[.string s, .func (.func 50) #[] #[]] w (OwB (spL isPat s) (spOk isPat s) w) := by
  by_cases hz : s.size = 0
  · have HK := Lib.hid (show spOk isPat s = true by simp [spOk, hz])
    have HL := Lib.hid (show spL isPat s = [] by simp [spL, hz])
    have he : s = ⟨#[]⟩ := by
      apply ByteArray.ext
      exact Array.eq_empty_of_size_eq_zero hz
    subst he
    clear hz hs
    go_enter Try.func29, Try.ntmps29
    go_wp2
    refine bodyPost_ret (v := .tuple #[.slice (some ⟨w.heap.size + 1 + 1 + 1, 0, none⟩) 0 0, .bool true]) (by simp [results, Try.f29, go_sem]) rfl ?_
    rw [OwB, HK.out, HL.out]
    exact ⟨_, rfl, (own_empty_at (by simp) (by omega)).alloc _, (by repeat (first | exact Below.refl _ _ | assumption | refine Below.alloc ?_ (by first | omega | (simp <;> omega)) _ | refine Below.setCell ?_ (by first | omega | (simp <;> omega)) _ | refine Below.drew ?_ | refine below_drewN ?_ _))⟩
  · have hpos : 1 ≤ s.size := by omega
    have hne : (s.toList == []) = false := by
      rw [beq_eq_false_iff_ne, ByteArray.toList_eq]
      intro h
      exact hz (by have := congrArg List.length h; simpa using this)
    by_cases h0 : s[0] = 47
    · have hb : s.data[0]? = some 47 := by rw [data_at s 0 hpos]; simpa using h0
      obtain ⟨t, hft, htn⟩ := splitT_hit s 47 hb
      have htl : tailT s = t := by rw [tailT, hft]; rfl
      have hk : spOk isPat s = t.all isPat := by simp [spOk, hz, hb, htl]
      have HK := Lib.hid hk
      have HL := Lib.hid (show spL isPat s = if t.all isPat = true then t else [] by simp [spL, hz, hk, htl])
      have hlen := (splitT_length s 47).1
      have hszs := splitT_sizes s 47
      have hbe : ((s[0].toNat : Int) == 47) = true := by rw [h0]; rfl
      obtain ⟨i0, hi, hz0, hz1, hz2⟩ := info_parts Try.info_str
      rw [hft] at hlen hszs
      simp only [List.length_cons] at hlen
      have HFT := Lib.hid hft
      have HSZ := Lib.hid hszs
      clear hk hz h0 hb htl hft hszs htn
      refine (callsIn_wide (n := 5)).1 ?_
      refine callsIn_of_wp_marks Try.func29 rfl trivial ?_ rfl
      simp only [Try.ntmps29, List.size_toArray, List.length_cons, List.length_nil, Nat.reduceAdd, Nat.reduceSub, Array.replicate_succ, Array.replicate_zero, List.push_toArray, List.append_toArray, List.nil_append, List.cons_append]
      gi_wp2_with fail
      refine ⟨trivial, (stepsOf_in _ s _).mono ?_⟩
      rintro e w' ⟨rfl, rfl⟩
      gi_wp2_with fail
      obtain ⟨W0, hW0⟩ : ∃ W0, ((((((w.alloc (.cells #[.func (.func 50) #[] #[]] 27)).alloc (.cells #[.slice none 0 0] 22)).alloc (.cells #[.bool false] 4)).alloc (.cells #[] 9)).alloc (.cells #[.slice (some ⟨w.heap.size + 1 + 1 + 1, 0, none⟩) 0 0] 22)).alloc (.cells #[.string s] 9)) = W0 := ⟨_, rfl⟩
      have hsz : W0.heap.size = w.heap.size + 6 := by rw [← hW0]; simp
      have bA : Boxed W0 w.heap.size 27 (.func (.func 50) #[] #[]) := by
        rw [← hW0]; exact (((((boxed_new_at rfl).alloc _).alloc _).alloc _).alloc _).alloc _
      have bR : Boxed W0 (w.heap.size + 1) 22 (.slice none 0 0) := by
        rw [← hW0]; exact ((((boxed_new_at (by simp)).alloc _).alloc _).alloc _).alloc _
      have bO : Boxed W0 (w.heap.size + 1 + 1) 4 (.bool false) := by
        rw [← hW0]; exact (((boxed_new_at (by simp)).alloc _).alloc _).alloc _
      have bS : Boxed W0 (w.heap.size + 1 + 1 + 1 + 1) 22 (.slice (some ⟨w.heap.size + 1 + 1 + 1, 0, none⟩) 0 0) := by
        rw [← hW0]; exact (boxed_new_at (by simp)).alloc _
      have bP : Boxed W0 (w.heap.size + 1 + 1 + 1 + 1 + 1) 9 (.string s) := by
        rw [← hW0]; exact boxed_new_at (by simp)
      have hown : W0.ownsRow w.heap.size 9 1 (.slice (some ⟨w.heap.size + 1 + 1 + 1, 0, none⟩) 0 0) 0 [] := by
        rw [← hW0]; exact ((own_empty_at (by simp) (by omega)).alloc _).alloc _
      have hB0 : Below w.heap.size w W0 := by
        rw [← hW0]; exact (by repeat (first | exact Below.refl _ _ | assumption | refine Below.alloc ?_ (by first | omega | (simp <;> omega)) _ | refine Below.setCell ?_ (by first | omega | (simp <;> omega)) _ | refine Below.drew ?_ | refine below_drewN ?_ _))
      rw [hW0]
      clear hW0
      have hmap : (smT t (fun p hp => by have := HSZ.out p (List.mem_cons_of_mem _ hp); omega)).map (·.1) = t := smT_val _ _
      obtain ⟨T, hT⟩ : ∃ T : List SmT, T = smT t (fun p hp => by have := HSZ.out p (List.mem_cons_of_mem _ hp); omega) := ⟨_, rfl⟩
      rw [← hT] at hmap
      have hTl : T.length = t.length := by rw [← hmap, List.length_map]
      clear hT
      refine wpIn_rangeFunc_ownG rfl (by omega) (gf := 58) (lb := #[.pointer (some ⟨w.heap.size + 1 + 1 + 1 + 1 + 1, 0, none⟩)]) rfl trivial (enters_of Try.func58 (by kernel_rfl) rfl)
        (stepsOf_stops (5 - 1) (by omega) (w.heap.size + 1 + 1 + 1 + 1 + 1) (w.heap.size + 1 + 1 + 1 + 1) s _ T (by rw [hmap]; exact HFT.out) hs W0 (by omega) bP.cell (by omega)
          (fun v hv g hg => by rw [bS.cell] at hv; cases hv; cases hg; show w.heap.size + 1 + 1 + 1 < W0.heap.size; omega))
        KpB.trans (fun W l o o' hl h ho _ => KpB.putObj (b := w.heap.size + 1 + 1 + 1 + 1) o' (by omega) h ho) (Below.refl _ _) (fun _ => rfl)
        (fun pre W => (∃ v, Boxed W (w.heap.size + 1 + 1 + 1 + 1) 22 v ∧ W.ownsRow w.heap.size 9 1 v pre.length (pre.map fun x => Value.string x.1) ∧ True) ∧ Boxed W w.heap.size 27 (.func (.func 50) #[] #[]) ∧ Boxed W (w.heap.size + 1) 22 (.slice none 0 0) ∧ Boxed W (w.heap.size + 1 + 1) 4 (.bool false) ∧ (∀ x ∈ pre, isPat x.1 = true) ∧ Below w.heap.size w W)
        (fun c pre W => (∃ v, Boxed W (w.heap.size + 1) 22 v ∧ W.ownsRow w.heap.size 9 1 v 0 [] ∧ True) ∧ Boxed W (w.heap.size + 1 + 1) 4 (.bool false) ∧ (c = .ret ∧ ∃ x ∈ pre, isPat x.1 = false) ∧ Below w.heap.size w W)
        (OwnFrom.and (Own.from (holdsRow_own w.heap.size (w.heap.size + 1 + 1 + 1 + 1) 22 9 1 (fun pre : List SmT => pre.length) (fun pre : List SmT => pre.map fun x => Value.string x.1) (fun _ _ => True)) _)
          (OwnFrom.and (Own.from (boxed_own _ _ _) _) (OwnFrom.and (Own.from (boxed_own _ _ _) _) (OwnFrom.and (Own.from (boxed_own _ _ _) _) (OwnFrom.and (ownFrom_pure _ _) (ownFrom_below (Nat.le_refl _) (by omega)))))))
        (fun c => OwnFrom.and (Own.from (holdsRow_own w.heap.size (w.heap.size + 1) 22 9 1 (fun _ => 0) (fun _ => []) (fun _ _ => True)) _)
          (OwnFrom.and (Own.from (boxed_own _ _ _) _) (OwnFrom.and (ownFrom_pure _ _) (ownFrom_below (Nat.le_refl _) (by omega)))))
        ⟨⟨_, bS, hown, trivial⟩, bA, bR, bO, by simp, hB0⟩
        (fun x => { tmps := #[.string s, .func (.func 50) #[] #[], undef, .pointer (some ⟨w.heap.size, 0, none⟩), .pointer (some ⟨w.heap.size + 1, 0, none⟩), .pointer (some ⟨w.heap.size + 1 + 1, 0, none⟩), .pointer (some ⟨w.heap.size + 1 + 1 + 1 + 1, 0, none⟩), .string x.1, .slice (some ⟨w.heap.size + 1 + 1 + 1, 0, none⟩) 0 0, .string s, .bool false, undef, .string s, .int .u8 s[0].toNat, .bool false, undef, .string s, .func (.func 58) #[] #[.pointer (some ⟨w.heap.size + 1 + 1 + 1 + 1 + 1, 0, none⟩)], .string x.1, undef, undef, undef, undef, undef, undef, undef, undef, undef, undef], defers := [] }) ?assign ?body ?done ?stop
      case assign =>
        intro l x W K hK
        gi_wp2
        exact hK
      case body =>
        rintro l pre x W ⟨⟨v, hv, hrow, -⟩, bA, bR, bO, hall, hB⟩ hlt
        have cA := bA.cell
        have hv0 := hv
        have cR := bR.cell
        have fR := bR.frozen
        have cO := bO.cell
        have fO := bO.frozen
        have cS := hv.cell
        have hx2 := x.2
        gi_wp2_with fail
        refine ⟨trivial, (CallsIn.inRound l (callsIn_wide.2 (implPat_any x.1 W (by unfold maxLen; omega)))).mono ?_⟩
        rintro e W1 ⟨rfl, hb1⟩
        have hg1 := grownBy_below hb1
        have hnn : ∀ b : Nat, some b ≠ (none : Option Nat) := fun b h => by cases h
        have hv := hv.kept hg1 (hnn _)
        have bA := bA.kept hg1 (hnn _)
        have bR := bR.kept hg1 (hnn _)
        have bO := bO.kept hg1 (hnn _)
        have hrow := own_below hrow hb1 (Nat.le_refl _)
        have cR := bR.cell
        have fR := bR.frozen
        have cO := bO.cell
        have fO := bO.frozen
        have cS := hv.cell
        have hs1 := hb1.size
        have hBs := hB.size
        have hB1 := hB.trans (hb1.mono hBs)
        have hkf : KeepsFrom W0.heap.size W W1 := KeepsFrom.of_grownBy hg1 (fun j e => by cases e)
        have hkp : KpB (w.heap.size + 1 + 1 + 1 + 1) W W1 := KpB.below hv0.lt hb1
        have HA := Lib.hid (And.intro hall (And.intro hB1 (And.intro hkf hkp)))
        clear hall hB1 hkf hkp hg1 hnn hB hb1
        generalize hbz : isPat x.1 = bz at *
        have HZ := Lib.hid hbz
        clear hbz
        cases bz with
        | true =>
          gi_wp2_with (gi_at_builtin; refine wpListIn_append_own_at _ rfl _ _ 22 rfl w.heap.size 9 i0 (.string ⟨#[]⟩) 1 16 Try.underlying22 hi hz0 hz1 hz2 rfl (by decide) _ _ _ rfl (hrow.alloc _) ⟨W1.heap.size, 0, none⟩ 1 1 [.string x.1] rfl rfl (cell_one_new _ _ _) (by simp [Value.oneCell']) (by unfold maxLen; omega) (by omega) (by simp; omega) ?_; intro v' w1 hown' hgrow _ hob; obtain ⟨g', cap', rfl⟩ := ownsRow_succ hown'; obtain ⟨hv1, hv2, hr2, hk2, hb2⟩ := hv.appended (by decide) hrow (by omega) (by omega) hown' hgrow; have kp := KpB.appended hv hv1 hgrow hob; have hc1 := hv1.cell; have hf1 := hv1.frozen)
          obtain ⟨hall, hB1, hkf, hkp⟩ := HA.out
          have mv : ∀ {b : Nat} {T : TypeId} {u : Value}, Boxed W1 b T u → T ≠ 9 → b ≠ w.heap.size + 1 + 1 + 1 + 1 → Boxed (w1.setCell ⟨w.heap.size + 1 + 1 + 1 + 1, 0, none⟩ (.slice (some ⟨g', 0, none⟩) (pre.length + 1) cap')) b T u :=
            fun h h1 h2 => (Boxed.kept (h.alloc _) hgrow (h.not_row h1 hrow)).other h2 _
          refine ⟨hkf.trans (hk2.from _), hkp.trans kp, ⟨_, hv2, by simpa using hr2, trivial⟩, mv bA (by decide) (by omega), mv bR (by decide) (by omega), mv bO (by decide) (by omega), ?_, hB1.trans hb2⟩
          intro y hy
          rcases List.mem_append.1 hy with h | h
          · exact hall y h
          · simp only [List.mem_singleton] at h
            subst h
            exact HZ.out
        | false =>
          have bR1 := bR.alloc (.cells #[] 9)
          have bO1 := bO.alloc (.cells #[] 9)
          have cR1 := bR1.cell
          have fR1 := bR1.frozen
          have bO2 := bO1.other (B' := w.heap.size + 1) (by omega) (.slice (some ⟨W1.heap.size, 0, none⟩) 0 0)
          have cO2 := bO2.cell
          have fO2 := bO2.frozen
          gi_wp2
          obtain ⟨hall, hB1, hkf, hkp⟩ := HA.out
          have hne2 : w.heap.size + 1 ≠ w.heap.size + 1 + 1 := by omega
          have hBo := (own_empty_at (w := W1) (e := 9) (size := 1) (base := w.heap.size) rfl (by omega))
          have b1 := bR1.set (.slice (some ⟨W1.heap.size, 0, none⟩) 0 0)
          have o1 := hBo.kept (grownBy_setCell' _ (w.heap.size + 1) (.slice (some ⟨W1.heap.size, 0, none⟩) 0 0)) (.inr (bR1.not_row (by decide) hBo).symm)
          have o2 := o1.kept (grownBy_setCell' _ (w.heap.size + 1 + 1) (.bool false)) (.inr (bO2.not_row (by decide) o1).symm)
          refine ⟨hkf.trans (((KeepsOthers.alloc W1 _).trans ((KeepsOthers.setCell _ _ _).trans (KeepsOthers.setCell _ _ _))).from _), ⟨_, b1.other hne2 _, o2, trivial⟩, bO2.set _, ⟨rfl, x, List.mem_append.2 (.inr (by simp)), HZ.out⟩, ?_⟩
          exact hB1.trans (((below_alloc1' W1 _ (by omega)).setCell (p := ⟨w.heap.size + 1, 0, none⟩) (by show w.heap.size ≤ w.heap.size + 1; omega) _).setCell (p := ⟨w.heap.size + 1 + 1, 0, none⟩) (by show w.heap.size ≤ w.heap.size + 1 + 1; omega) _)
      case done =>
        rintro D ys W hD rfl ⟨⟨v, hv, hrow, -⟩, bA, bR, bO, hall, hB⟩ hK
        have cR := bR.cell
        have fR := bR.frozen
        have hvs : ∃ A c, v = .slice A ys.length c := by
          rcases hrow.2 with ⟨rfl, h0⟩ | ⟨g, cap, cur, rfl, _⟩
          · exact ⟨none, 0, by rw [h0]⟩
          · exact ⟨_, _, rfl⟩
        obtain ⟨A, c, rfl⟩ := hvs
        have cS := hv.cell
        have bO2 := bO.other (B' := w.heap.size + 1) (by omega) (.slice A ys.length c)
        have cO2 := bO2.cell
        have fO2 := bO2.frozen
        have HT := Lib.hid hTl
        have HM := Lib.hid hmap
        clear hTl hmap
        gi_wp2
        have hall' : t.all isPat = true := by
          rw [List.all_eq_true]
          intro y hy
          rw [← HM.out] at hy
          obtain ⟨z, hz, rfl⟩ := List.mem_map.1 hy
          exact hall z hz
        have hk1 : KeepsOthers W ((W.setCell ⟨w.heap.size + 1, 0, none⟩ (.slice A ys.length c)).setCell ⟨w.heap.size + 1 + 1, 0, none⟩ (.bool true)) := (KeepsOthers.setCell _ _ _).trans (KeepsOthers.setCell _ _ _)
        have hK' := hk1.same D _ hK rfl
        have bR2 := (bR.set (.slice A ys.length c)).other (B' := w.heap.size + 1 + 1) (by omega) (.bool true)
        have bO3 := bO2.set (.bool true)
        have o1 := hrow.kept (grownBy_setCell' _ (w.heap.size + 1) (.slice A ys.length c)) (.inr (bR.not_row (by decide) hrow).symm)
        have o2 := o1.kept (grownBy_setCell' _ (w.heap.size + 1 + 1) (.bool true)) (.inr (bO2.not_row (by decide) o1).symm)
        have hB2 := (hB.setCell (p := ⟨w.heap.size + 1, 0, none⟩) (by show w.heap.size ≤ w.heap.size + 1; omega) (.slice A ys.length c)).setCell (p := ⟨w.heap.size + 1 + 1, 0, none⟩) (by show w.heap.size ≤ w.heap.size + 1 + 1; omega) (.bool true)
        have hg3 := grownBy_putObj' ((W.setCell ⟨w.heap.size + 1, 0, none⟩ (.slice A ys.length c)).setCell ⟨w.heap.size + 1 + 1, 0, none⟩ (.bool true)) D (.deferred none)
        have cR3 := (bR2.kept hg3 (by intro e; cases e; omega)).cell
        have cO3 := (bO3.kept hg3 (by intro e; cases e; omega)).cell
        refine ⟨by simp, .inl ⟨_, _, rfl, run_takeDeferred hK', ?_⟩⟩
        refine ⟨.tuple #[.slice A ys.length c, .bool true], ?_, ?_⟩
        · simp [results, Try.f29, go_sem, cR3, cO3]
        rw [OwB, HK.out, HL.out, hall']
        refine ⟨_, rfl, ?_, hB2.trans (belowK_b (w := w) (Nat.le_refl _) _ D _ _ (by omega) hK' rfl rfl)⟩
        have := ownsRow_putObj o2 (.deferred none) hK' rfl
        rw [if_pos rfl, ← HT.out, ← HM.out, List.map_map]
        exact this
      case stop =>
        rintro D c pre W hD hpre ⟨⟨v, hv, hrow, -⟩, bO, ⟨rfl, x, hx, hxf⟩, hB⟩ hK
        have cR := hv.cell
        have cO := bO.cell
        have HM := Lib.hid hmap
        clear hmap
        gi_wp2
        have hall' : t.all isPat = false := by
          rw [List.all_eq_false]
          exact ⟨x.1, by rw [← HM.out]; exact List.mem_map.2 ⟨x, hpre.subset hx, rfl⟩, by rw [hxf]; decide⟩
        have hg3 := grownBy_putObj' W D (.deferred none)
        have cR3 := (hv.kept hg3 (by intro e; cases e; omega)).cell
        have cO3 := (bO.kept hg3 (by intro e; cases e; omega)).cell
        refine ⟨by simp, .inl ⟨_, _, rfl, run_takeDeferred hK, ?_⟩⟩
        refine ⟨.tuple #[v, .bool false], ?_, ?_⟩
        · simp [results, Try.f29, go_sem, cR3, cO3]
        rw [OwB, HK.out, HL.out, hall']
        exact ⟨_, rfl, ownsRow_putObj hrow (.deferred none) hK rfl, hB.trans (belowK_b (w := w) (Nat.le_refl _) _ D _ _ (by omega) hK rfl rfl)⟩
    · have hk : spOk isPat s = false := by
        have : s.data[0]? ≠ some 47 := by rw [data_at s 0 hpos]; simpa using h0
        simp [spOk, hz, this]
      have HK := Lib.hid hk
      have HL := Lib.hid (show spL isPat s = [] by simp [spL, hk])
      have hbe : ((s[0].toNat : Int) == 47) = false := by
        rw [beq_eq_false_iff_ne]; intro hx; exact h0 (UInt8.toNat_inj.1 (by have : (47 : UInt8).toNat = 47 := rfl; omega))
      clear hk hz h0
      go_enter Try.func29, Try.ntmps29
      go_wp2
      refine bodyPost_ret (v := .tuple #[.slice (some ⟨w.heap.size + 1 + 1 + 1, 0, none⟩) 0 0, .bool false]) (by simp [results, Try.f29, go_sem]) rfl ?_
      rw [OwB, HK.out, HL.out]
      exact ⟨_, rfl, (own_empty_at (by simp) (by omega)).alloc _, (by repeat (first | exact Below.refl _ _ | assumption | refine Below.alloc ?_ (by first | omega | (simp <;> omega)) _ | refine Below.setCell ?_ (by first | omega | (simp <;> omega)) _ | refine Below.drew ?_ | refine below_drewN ?_ _))⟩
set_option maxHeartbeats 400000 in
theorem splitPattern_any (s : ByteArray) (w : World) (hs : s.size ≤ 2097152) :
    Calls Try.prog 32 #[.string s] w (OwB (spL isPat s) (spOk isPat s) w) := by
  go_enter Try.func32, Try.ntmps32
  go_wp2_with fail
  refine (splitWithQ_any s w hs).mono ?_
  rintro e w1 ⟨v, rfl, hown, hb⟩
  have H := Lib.hid (And.intro hown hb)
  clear hown hb
  go_wp2
  go_ret2
  exact ⟨_, rfl, H.out.1, H.out.2⟩
end Go.Proofs.Ytglminmoglncpaa
