/- The walks of toRuleS and toDescription. Conditions: the parts are at most 2^20 long. -/
import Derived.Test.YtkfmdkogifmfmaaDoorDescTo
import Derived.WalkSpells
import Derived.WalkLawsBesides
namespace Go.Proofs.YtkfmdkogifmfmaaDoor
set_option linter.unusedSimpArgs false
set_option linter.unusedVariables false
open Go.RowKit

/-- Rules one behind the other, each with rows of its own. -/
def OwRs (hi : Nat) (w : World) : List RM → Nat → Prop
  | [], lo => lo ≤ hi
  | r :: l, lo => ∃ m, lo ≤ m ∧ r.own lo m w ∧ OwRs hi w l m
theorem OwRs.le {hi : Nat} {w : World} : ∀ {l : List RM} {lo : Nat}, OwRs hi w l lo → lo ≤ hi
  | [], _, h => h
  | _ :: _, _, ⟨_, h1, _, h3⟩ => Nat.le_trans h1 h3.le
theorem OwRs.keep {hi lo' hi' : Nat} {w w' : World} (ho : Out lo' hi' w w') : ∀ {l : List RM} {lo : Nat}, OwRs hi w l lo → (hi ≤ lo' ∨ hi' ≤ lo) → OwRs hi w' l lo
  | [], _, h, _ => h
  | _ :: _, _, ⟨m, h1, h2, h3⟩, hd => ⟨m, h1, h2.keep ho (by have := h3.le; omega), h3.keep ho (by omega)⟩
theorem RM.own.wide {r : RM} {lo hi hi' : Nat} {w : World} (h : r.own lo hi w) (hh : hi ≤ hi') : r.own lo hi' w := by
  obtain ⟨m1, m2, m3, h1, h2, h3, h4, a, b, c, d⟩ := h
  exact ⟨m1, m2, m3, h1, h2, h3, Row.wide h4 (Nat.le_refl _) hh, a, b, c, by omega⟩
theorem OwRs.snoc {hi mid : Nat} {w : World} {r : RM} (hr : r.own mid hi w) (hm : mid ≤ hi) : ∀ {l : List RM} {lo : Nat}, OwRs mid w l lo → OwRs hi w (l ++ [r]) lo
  | [], lo, h => by
    obtain ⟨m1, m2, m3, h1, h2, h3, h4, a, b, c, d⟩ := hr
    exact ⟨hi, Nat.le_trans h hm, ⟨m1, m2, m3, Row.wide h1 h (Nat.le_refl _), h2, h3, h4, Nat.le_trans h a, b, c, d⟩, Nat.le_refl _⟩
  | _ :: _, _, ⟨m, h1, h2, h3⟩ => ⟨m, h1, h2, h3.snoc hr hm⟩
theorem OwRs.rd {hi : Nat} {w : World} : ∀ {l : List RM} {lo : Nat}, OwRs hi w l lo → ∀ r ∈ l, r.rd w w.heap.size
  | [], _, _, r, hr => by simp at hr
  | x :: l, _, ⟨_, _, h2, h3⟩, r, hr => by
    simp only [List.mem_cons] at hr
    rcases hr with rfl | hr
    · exact h2.rd
    · exact h3.rd r hr
/-- A description's rules, copied. -/
def OwD (D : List RuleD) (lo hi : Nat) (w : World) (v : Value) : Prop :=
  ∃ (l : List RM) (m : Nat), l.map RM.d = D ∧ Row lo m 58 8 l.length (l.flatMap rmCells) w v ∧ lo ≤ m ∧ OwRs hi w l m
theorem OwD.keep {D : List RuleD} {lo hi lo' hi' : Nat} {w w' : World} {v : Value} (h : OwD D lo hi w v) (ho : Out lo' hi' w w') (hd : hi ≤ lo' ∨ hi' ≤ lo) : OwD D lo hi w' v := by
  obtain ⟨l, m, h1, h2, h3, h4⟩ := h
  have := h4.le
  exact ⟨l, m, h1, h2.keep ho (by omega), h3, h4.keep ho (by omega)⟩
theorem OwD.sl {D : List RuleD} {lo hi : Nat} {w : World} {v : Value} (h : OwD D lo hi w v) : ∃ l : List RM, l.map RM.d = D ∧ SlD w w.heap.size v l := by
  obtain ⟨l, m, h1, h2, h3, h4⟩ := h
  exact ⟨l, h1, h2.sl, h4.rd⟩
theorem OwRs.wide {hi hi' : Nat} {w : World} (hh : hi ≤ hi') : ∀ {l : List RM} {lo : Nat}, OwRs hi w l lo → OwRs hi' w l lo
  | [], _, h => Nat.le_trans h hh
  | _ :: _, _, ⟨m, h1, h2, h3⟩ => ⟨m, h1, h2, h3.wide hh⟩
theorem OwD.wide {D : List RuleD} {lo hi lo' hi' : Nat} {w : World} {v : Value} (h : OwD D lo hi w v) (h1 : lo' ≤ lo) (h2 : hi ≤ hi') : OwD D lo' hi' w v := by
  obtain ⟨l, m, a, b, c, d⟩ := h
  exact ⟨l, m, a, Row.wide b h1 (Nat.le_refl _), by omega, d.wide h2⟩
theorem own_lt_succ (h : Nat) {n c : Nat} (o : Nat) : ∀ k, (Value.slice (some ⟨h, o, none⟩) n c).ownBlock = some k → k < h + 1 := by
  intro k hk
  have : h = k := by simpa [Value.ownBlock] using hk
  omega
theorem Tryd.info_rule : (Tryd.prog.info? 58).map (fun i => (i.zero, i.size, i.bytes)) = some (some (.agg #[.string ⟨#[]⟩, .int .i64 0, .int .i64 0, .bool false, .slice none 0 0, .slice none 0 0, .slice none 0 0, .slice none 0 0]), 8, 136) := by kernel_rfl

set_option maxHeartbeats 2000000 in
set_option maxRecDepth 100000 in
theorem toRuleS_any (v : Value) (l : List RM) (B : Nat) (w : World) (h : SlD w B v l) (hB : B ≤ w.heap.size) (hl : l.length ≤ 1048576) (hs : ∀ r ∈ l, r.d.small 1048576) :
    Calls Tryd.prog 23 #[v] w (Made (OwD (l.map RM.d)) w) := by
  obtain ⟨i0, hi, hz0, hz1, hz2⟩ := info_parts Tryd.info_rule
  have h2 := h.2
  obtain ⟨A, c, rfl, hc, hm, hcell⟩ := h.open_
  unfold maxLen at hm
  have hby : i0.bytes * l.length ≤ 281474976710656 := by rw [hz2]; omega
  clear h
  go_enter Tryd.func23, Tryd.ntmps23
  go_wp2_with (at_make; refine wpList_make_full _ rfl _ _ 30 rfl w.heap.size 58 i0 (.agg #[.string ⟨#[]⟩, .int .i64 0, .int .i64 0, .bool false, .slice none 0 0, .slice none 0 0, .slice none 0 0, .slice none 0 0]) 8 Tryd.underlying30 hi hz0 hz1 _ _ _ _ l.length rfl rfl rfl rfl hby (by unfold maxLen; omega) (Nat.le_refl _) ?_; intro w1 hown hg)
  have hbel : Below w.heap.size w w1 := below_grown hg (Nat.le_refl _) (by intro k hk; cases hk)
  obtain ⟨xs, hxs⟩ : ∃ xs, xs = (madeCells (Value.cells (.agg #[.string ⟨#[]⟩, .int .i64 0, .int .i64 0, .bool false, .slice none 0 0, .slice none 0 0, .slice none 0 0, .slice none 0 0])) (l.length * 8)).toList := ⟨_, rfl⟩
  rw [← hxs] at hown
  have hlt1 : w.heap.size + 1 ≤ w1.heap.size := by
    by_cases h0 : 0 < l.length
    · exact (hown.lt w.heap.size rfl).2
    · exact (hown.lt w.heap.size rfl).2
  clear hg hxs
  go_loopw [4] (fun i wr => ∃ k : Nat, k ≤ l.length ∧ i = .int .i64 k ∧ (∃ (D : List RM) (ys : List Value), D.map RM.d = (l.take k).map RM.d ∧ wr.ownsRow w.heap.size 58 8 (.slice (some ⟨w.heap.size, 0, none⟩) l.length l.length) l.length (D.flatMap rmCells ++ ys) ∧ OwRs wr.heap.size wr D (w.heap.size + 1)) ∧ Below w.heap.size w wr) (fun i _ => l.length - (intOf i).toNat)
  case atStart => exact ⟨0, Nat.zero_le _, rfl, ⟨[], xs, rfl, hown, hlt1⟩, hbel⟩
  case round =>
    clear hown hbel hlt1
    obtain ⟨k, hk, rfl, ⟨D, ys, hD, hownr, hrs⟩, hb⟩ := hrel
    have hDl : D.length = k := by have := congrArg List.length hD; simp at this; omega
    by_cases hlt : k < l.length
    · obtain ⟨b, off, rfl, hbB, hc0, hc1, hc2, hc3, hc4, hc5, hc6, hc7⟩ := hcell k hlt
      have hbm := hb.mono hB
      have hd0 : wr.cell? ⟨b, off + k * 8, none⟩ = some (.string l[k].d.name) := (hbm.cell (p := ⟨b, off + k * 8, none⟩) hbB).trans hc0
      have hd1 : wr.cell? ⟨b, off + k * 8 + 1, none⟩ = some (.int .i64 l[k].d.kind) := (hbm.cell (p := ⟨b, off + k * 8 + 1, none⟩) hbB).trans hc1
      have hd2 : wr.cell? ⟨b, off + k * 8 + 2, none⟩ = some (.int .i64 l[k].d.size) := (hbm.cell (p := ⟨b, off + k * 8 + 2, none⟩) hbB).trans hc2
      have hd3 : wr.cell? ⟨b, off + k * 8 + 3, none⟩ = some (.bool l[k].d.little) := (hbm.cell (p := ⟨b, off + k * 8 + 3, none⟩) hbB).trans hc3
      have hd4 : wr.cell? ⟨b, off + k * 8 + 4, none⟩ = some l[k].vb := (hbm.cell (p := ⟨b, off + k * 8 + 4, none⟩) hbB).trans hc4
      have hd5 : wr.cell? ⟨b, off + k * 8 + 5, none⟩ = some l[k].vn := (hbm.cell (p := ⟨b, off + k * 8 + 5, none⟩) hbB).trans hc5
      have hd6 : wr.cell? ⟨b, off + k * 8 + 6, none⟩ = some l[k].vt := (hbm.cell (p := ⟨b, off + k * 8 + 6, none⟩) hbB).trans hc6
      have hd7 : wr.cell? ⟨b, off + k * 8 + 7, none⟩ = some l[k].vk := (hbm.cell (p := ⟨b, off + k * 8 + 7, none⟩) hbB).trans hc7
      have hr2 := (h2 _ (List.getElem_mem hlt)).below hbm
      have hsm := hs _ (List.getElem_mem hlt)
      have hsz := hb.size
      clear hcell hc0 hc1 hc2 hc3 hc4 hc5 hc6 hc7 hbm
      go_wp2_with fail
      refine (toRule_any l[k] B _ hr2 (by omega) hsm).mono ?_
      rintro e w2 ⟨vb, vn, vt, vk, rfl, hown3, hb1⟩
      unfold rmV
      dsimp only
      have hrs2 := OwRs.snoc hown3 hb1.size (hrs.keep (Out.of_below hb1 0 0) (.inr (Nat.zero_le _)))
      have hr4 := hown3
      obtain ⟨m1, m2, m3, q1, q2, q3, q4, _⟩ := hown3
      obtain ⟨A1, c1, ev1⟩ := row_slice q1
      dsimp only at ev1
      subst ev1
      obtain ⟨A2, c2, ev2⟩ := row_slice q2
      dsimp only at ev2
      subst ev2
      obtain ⟨A3, c3, ev3⟩ := row_slice q3
      dsimp only at ev3
      subst ev3
      obtain ⟨A4, c4, ev4⟩ := row_slice q4
      dsimp only at ev4
      subst ev4
      clear q1 q2 q3 q4 hr4
      have hown2 := own_below hownr hb1 (Nat.le_refl _)
      have hb2 := hb.trans (hb1.mono (by omega))
      have hz2' := hb1.size
      clear hd0 hd1 hd2 hd3 hd4 hd5 hd6 hd7 hownr hb hb1 hr2 hrs
      have hold : ∀ j, j < 8 → ∃ u, w2.cell? ⟨w.heap.size, k * 8 + j, none⟩ = some u := by
        intro j hj
        rw [hown2.cellAt (k * 8 + j) (by omega)]
        exact ⟨_, List.getElem?_eq_getElem (by rw [hown2.1]; omega)⟩
      obtain ⟨u0', hu0⟩ := hold 0 (by omega)
      have hf0 := hown2.frozenAt (k * 8)
      obtain ⟨u1', hu1⟩ := hold 1 (by omega)
      have hf1 := hown2.frozenAt (k * 8 + 1)
      obtain ⟨u2', hu2⟩ := hold 2 (by omega)
      have hf2 := hown2.frozenAt (k * 8 + 2)
      obtain ⟨u3', hu3⟩ := hold 3 (by omega)
      have hf3 := hown2.frozenAt (k * 8 + 3)
      obtain ⟨u4', hu4⟩ := hold 4 (by omega)
      have hf4 := hown2.frozenAt (k * 8 + 4)
      obtain ⟨u5', hu5⟩ := hold 5 (by omega)
      have hf5 := hown2.frozenAt (k * 8 + 5)
      obtain ⟨u6', hu6⟩ := hold 6 (by omega)
      have hf6 := hown2.frozenAt (k * 8 + 6)
      obtain ⟨u7', hu7⟩ := hold 7 (by omega)
      have hf7 := hown2.frozenAt (k * 8 + 7)
      rw [Nat.add_zero] at hu0
      clear hold
      have hDc : (D.flatMap rmCells).length = k * 8 := by rw [flatMap_len rmCells 8 rmCells_length, hDl]
      have hys : 8 ≤ ys.length := by
        have := hown2.1
        rw [List.length_append, hDc] at this
        omega
      have hp := own_putCells (rmCells ⟨l[k].d, .slice A1 l[k].d.bytes.length c1, .slice A2 l[k].d.names.length c2, .slice A3 l[k].d.tags.length c3, .slice A4 l[k].d.kids.length c4⟩) _ _ ys (by simpa [rmCells] using hys) hown2
      rw [hDc] at hp
      have e1 : D.flatMap rmCells ++ rmCells ⟨l[k].d, .slice A1 l[k].d.bytes.length c1, .slice A2 l[k].d.names.length c2, .slice A3 l[k].d.tags.length c3, .slice A4 l[k].d.kids.length c4⟩ = (D ++ [(⟨l[k].d, .slice A1 l[k].d.bytes.length c1, .slice A2 l[k].d.names.length c2, .slice A3 l[k].d.tags.length c3, .slice A4 l[k].d.kids.length c4⟩ : RM)]).flatMap rmCells := by simp
      rw [e1] at hp
      have hpb := below_putCells (g := w.heap.size) (rmCells ⟨l[k].d, .slice A1 l[k].d.bytes.length c1, .slice A2 l[k].d.names.length c2, .slice A3 l[k].d.tags.length c3, .slice A4 l[k].d.kids.length c4⟩) _ (k * 8) hb2 (Nat.le_refl _)
      have hpo : Out w.heap.size (w.heap.size + 1) w2 _ := Out.of_grown (grownBy_putCells (g := w.heap.size) (rmCells ⟨l[k].d, .slice A1 l[k].d.bytes.length c1, .slice A2 l[k].d.names.length c2, .slice A3 l[k].d.tags.length c3, .slice A4 l[k].d.kids.length c4⟩) w2 (k * 8)) (fun g hg => by cases hg; omega)
      have hps := hrs2.keep hpo (.inr (Nat.le_refl _))
      have hpz := hpo.size
      have hpe := putCells_size w.heap.size (rmCells ⟨l[k].d, .slice A1 l[k].d.bytes.length c1, .slice A2 l[k].d.names.length c2, .slice A3 l[k].d.tags.length c3, .slice A4 l[k].d.kids.length c4⟩) w2 (k * 8)
      rw [← hpe] at hps
      have HP := Lib.hid (And.intro hp (And.intro hps hpb))
      have HD := Lib.hid (show (D ++ [(⟨l[k].d, .slice A1 l[k].d.bytes.length c1, .slice A2 l[k].d.names.length c2, .slice A3 l[k].d.tags.length c3, .slice A4 l[k].d.kids.length c4⟩ : RM)]).map RM.d = (l.take (k + 1)).map RM.d by
        rw [List.map_append, hD, List.take_succ_eq_append_getElem hlt, List.map_append]; rfl)
      clear hp hps hpb hpo hpz hpe hys hown2 hb2 hrs2 hD hDl hDc e1 hsm
      go_wp2
      go_roundw
      case rel => exact ⟨k + 1, by omega, by go_num, ⟨_, _, HD.out, HP.out.1, HP.out.2.1⟩, HP.out.2.2⟩
      case measure => simp [intOf]; omega
    · have hkl : k = l.length := by omega
      have hys : ys = [] := by
        have := hownr.1
        rw [List.length_append, flatMap_len rmCells 8 rmCells_length, hDl] at this
        exact List.eq_nil_of_length_eq_zero (by omega)
      rw [hkl, List.take_length] at hD
      have hDl' : D.length = l.length := by omega
      rw [hys, List.append_nil] at hownr
      have hlt9 := (hownr.lt w.heap.size rfl).2
      have H := Lib.hid (And.intro hD (And.intro hownr (And.intro hrs hb)))
      have HL := Lib.hid hDl'
      clear hkl hys hownr hb hcell hD hDl hDl' hrs
      go_wp2
      go_ret
      exact ⟨_, rfl, ⟨D, w.heap.size + 1, H.out.1, by rw [HL.out]; exact ⟨H.out.2.1, own_lt_succ _ _⟩, by omega, H.out.2.2.1⟩, H.out.2.2.2⟩
set_option maxRecDepth 100000 in
theorem toDescription_any (v : Value) (l : List RM) (B : Nat) (w : World) (h : SlD w B v l) (hB : B ≤ w.heap.size) (hl : l.length ≤ 1048576) (hs : ∀ r ∈ l, r.d.small 1048576) :
    Calls Tryd.prog 9 #[.agg #[v]] w fun e w' => ∃ v', e = .returned (.agg #[v']) ∧ OwD (l.map RM.d) w.heap.size w'.heap.size w' v' ∧ Below w.heap.size w w' := by
  go_enter Tryd.func9, Tryd.ntmps9
  go_wp2_with fail
  have hE : Below w.heap.size w (((w.alloc (.cells #[v] 24)).alloc (.cells #[.slice none 0 0] 32)).alloc (.cells #[.slice none 0 0] 32)) := (((Below.refl w.heap.size w).alloc (Nat.le_refl _) _).alloc (by simp) _).alloc (by simp; omega) _
  refine (toRuleS_any v l B _ (h.below (hE.mono hB)) (by simp; omega) hl hs).mono ?_
  rintro e W1 ⟨v1, rfl, own1, bel1⟩
  have own0 : OwD (l.map RM.d) (w.heap.size + 3) W1.heap.size W1 v1 := by have := own1; simp only [World.size_alloc] at this; exact this
  have hb1 : Below w.heap.size w W1 := below_step bel1 hE
  have hz := bel1.size
  simp only [World.size_alloc] at hz
  have o0 : W1.cell? ⟨w.heap.size + 2, 0, none⟩ = some (.slice none 0 0) := cell_later bel1 (by simp [go_sem])
  have f0 : W1.frozen? ⟨w.heap.size + 2, 0, none⟩ = false := (bel1.frozen (p := ⟨w.heap.size + 2, 0, none⟩) (by simp)).trans (by simp [go_sem])
  have r0 : W1.cell? ⟨w.heap.size + 1, 0, none⟩ = some (.slice none 0 0) := cell_later bel1 (by simp [go_sem])
  have g0 : W1.frozen? ⟨w.heap.size + 1, 0, none⟩ = false := (bel1.frozen (p := ⟨w.heap.size + 1, 0, none⟩) (by simp <;> omega)).trans (by simp [go_sem])
  obtain ⟨l1, m1, hl1, hr1, hm1, hs1⟩ := own1
  obtain ⟨A1, c1, rfl⟩ := row_slice hr1
  have HB := Lib.hid hb1
  have HO := Lib.hid own0
  clear hb1 own0 hr1 hs1 hl1 hm1 bel1 hE h hs
  go_wp2
  refine bodyPost_ret (v := .agg #[.slice A1 l1.length c1]) (by simp [results, Tryd.results9, go_sem, r0, o0]) rfl ⟨_, rfl, ?_, ?_⟩
  · refine OwD.wide (HO.out.keep (lo' := w.heap.size + 1) (hi' := w.heap.size + 3) ((Out.refl _ _ _).setCell (b := w.heap.size + 2) (o := 0) (by omega) (by omega) _ |>.setCell (b := w.heap.size + 1) (o := 0) (by omega) (by omega) _) (by omega)) (by omega) (by simp)
  · exact (HB.out.setCell (p := ⟨w.heap.size + 2, 0, none⟩) (by show w.heap.size ≤ w.heap.size + 2; omega) _).setCell (p := ⟨w.heap.size + 1, 0, none⟩) (by show w.heap.size ≤ w.heap.size + 1; omega) _
end Go.Proofs.YtkfmdkogifmfmaaDoor
