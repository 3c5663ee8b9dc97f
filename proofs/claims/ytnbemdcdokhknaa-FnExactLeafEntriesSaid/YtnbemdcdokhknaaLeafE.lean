/- The walks of LeafEntries, spec and impl. Conditions: the slices read as a description and a list of at most 2^20 entries. -/
import Derived.Test.YtnbemdcdokhknaaDescAlt
import Derived.Test.YtnbemdcdokhknaaSelP
import Derived.Test.YtnbemdcdokhknaaShift
import Derived.Test.YtnbemdcdokhknaaOwnE
import Derived.WalkSpells
import Derived.WalkLawsBesides
import Derived.BigQuiet
import Derived.Deep.QuietTactic
import Derived.Deep.RegionHeld3
namespace Go.Proofs.Ytnbemdcdokhknaa
set_option linter.unusedSimpArgs false
set_option linter.unusedVariables false
open Go.RowKit
def leafK (k : Int) : Bool := k == 1 || k == 2 || k == 3 || k == 4 || k == 10
/-- The entry is one of a part without items. -/
def leafB (D : List RuleD) (e : Ent) : Bool := inB e.rule 0 ((D.length : Int) - 1) && (match ruleAt D e.rule with | none => false | some r => leafK r.kind)
theorem leafB_no {D : List RuleD} {e : Ent} (h : inB e.rule 0 ((D.length : Int) - 1) = false) : leafB D e = false := by unfold leafB; rw [h]; rfl
theorem leafB_at {D : List RuleD} {e : Ent} (h : inB e.rule 0 ((D.length : Int) - 1) = true) : ∃ (k : Nat) (hk : k < D.length), e.rule = k ∧ leafB D e = leafK (D[k]).kind := by
  have := inB_iff.1 h
  obtain ⟨k, hk, e1, e2⟩ := ruleAt_some (D := D) (i := e.rule) (by omega) (by omega)
  exact ⟨k, hk, e1, by unfold leafB; rw [h, e2]; rfl⟩

set_option maxHeartbeats 1000000 in
set_option maxRecDepth 100000 in
theorem select_leaf (c0 : Value) (p : Ent → Bool) (v : Value) (l : List Ent) (B : Nat) (w : World) (h : SlE w B v l) (hB : B ≤ w.heap.size) (hl : l.length ≤ 1048576)
    (hF : ∀ e, e ∈ l → ∀ W, Below w.heap.size w W → Calls Try.prog 33 #[entV e, c0] W fun x w' => x = .returned (.bool (p e)) ∧ Below W.heap.size W w') :
    Calls Try.prog 32 #[v, .func (.func 33) #[] #[c0]] w (Fresh w 47 4 (l.filter p).length (entsCells (l.filter p))) := by
  obtain ⟨i0, hi, hz0, hz1, hz2⟩ := info_parts Try.info_entry
  obtain ⟨A, c, rfl, hc, hm, hcell⟩ := h.open_
  unfold maxLen at hm
  have HF := Lib.hid hF
  clear hF h
  go_enter Try.func32, Try.ntmps32
  go_wp2
  go_loopw [5, 7, 11] (fun o _ i wr => ∃ k n : Nat, k ≤ l.length ∧ i = .int .i64 k ∧ n ≤ k ∧ n = ((l.take k).filter p).length ∧ wr.ownsRow w.heap.size 47 4 o n (entsCells ((l.take k).filter p)) ∧ Below w.heap.size w wr) (fun _ _ i _ => l.length - (intOf i).toNat)
  case atStart => exact ⟨0, 0, Nat.zero_le _, rfl, Nat.le_refl _, rfl, own_empty _ _ _, (Below.refl _ _).alloc (Nat.le_refl _) _⟩
  case round =>
    obtain ⟨k, n, hk, rfl, hn, hne, hown, hb⟩ := hrel
    have HN := Lib.hid hne
    clear hne
    by_cases hlt : k < l.length
    · obtain ⟨b, off, rfl, hbB, hc0, hc1, hc2, hc3⟩ := hcell k hlt
      have hd0 : wr.cell? ⟨b, off + k * 4, none⟩ = some (.string l[k].path) := (hb.cell (p := ⟨b, off + k * 4, none⟩) (by show b < _; omega)).trans hc0
      have hd1 : wr.cell? ⟨b, off + k * 4 + 1, none⟩ = some (.int .i64 l[k].rule) := (hb.cell (p := ⟨b, off + k * 4 + 1, none⟩) (by show b < _; omega)).trans hc1
      have hd2 : wr.cell? ⟨b, off + k * 4 + 2, none⟩ = some (.int .i64 l[k].start) := (hb.cell (p := ⟨b, off + k * 4 + 2, none⟩) (by show b < _; omega)).trans hc2
      have hd3 : wr.cell? ⟨b, off + k * 4 + 3, none⟩ = some (.int .i64 l[k].stop) := (hb.cell (p := ⟨b, off + k * 4 + 3, none⟩) (by show b < _; omega)).trans hc3
      have hblt := World.block_lt_of_cell? wr _ hd0
      have hsz := hb.size
      clear hcell hc0 hc1 hc2 hc3
      have hbb := hb.alloc (o := .cells #[.string l[k].path, .int .i64 l[k].rule, .int .i64 l[k].start, .int .i64 l[k].stop] 47) hsz
      go_wp2_with fail
      refine (HF.out l[k] (List.getElem_mem hlt) _ hbb).mono ?_
      rintro e w2 ⟨rfl, hb1⟩
      have hc : w2.cell? ⟨wr.heap.size, 0, none⟩ = some (.string l[k].path) := cell_later hb1 (by simp [go_sem])
      have hc1 : w2.cell? ⟨wr.heap.size, 1, none⟩ = some (.int .i64 l[k].rule) := cell_later hb1 (by simp [go_sem])
      have hc2 : w2.cell? ⟨wr.heap.size, 2, none⟩ = some (.int .i64 l[k].start) := cell_later hb1 (by simp [go_sem])
      have hc3 : w2.cell? ⟨wr.heap.size, 3, none⟩ = some (.int .i64 l[k].stop) := cell_later hb1 (by simp [go_sem])
      have hb2 := below_step hb1 hbb
      have hown2 := own_below (own_below hown ((Below.refl _ _).alloc (Nat.le_refl _) (.cells #[.string l[k].path, .int .i64 l[k].rule, .int .i64 l[k].start, .int .i64 l[k].stop] 47)) (Nat.le_refl _)) hb1 (Nat.le_refl _)
      clear hd0 hd1 hd2 hd3 hown hb hb1 hbb
      cases hq : p l[k]
      · have HE := Lib.hid (filter_no hlt hq)
        clear hq
        have H := Lib.hid (And.intro hown2 hb2)
        clear hown2 hb2
        go_wp2
        go_roundw
        case rel => exact ⟨k + 1, n, by omega, by go_num, by omega, by rw [HE.out]; exact HN.out, by rw [HE.out]; exact H.out.1, H.out.2⟩
        case measure => simp [intOf]; omega
      · have HE := Lib.hid (filter_yes hlt hq)
        clear hq
        go_wp2_with (at_builtin; refine wpList_app _ rfl (.tmp 18) (.tmp 20) 28 rfl w.heap.size 47 i0 (.agg #[.string ⟨#[]⟩, .int .i64 0, .int .i64 0, .int .i64 0]) 4 40 Try.underlying28 hi hz0 hz1 hz2 rfl (by decide) _ n _ rfl (own_below hown2 ((Below.refl _ _).alloc (Nat.le_refl _) _) (Nat.le_refl _)) _ 1 _ (entCells l[k]) rfl (sl_ent_one (e := l[k]) (by simp)) (entCells_one _) (by omega) (by unfold maxLen; omega) (by have := hb2.size; simp; omega) ?_; intro v1 w1 own1 hg1 _)
        have hb3 := below_app hg1 (own_below hown2 ((Below.refl _ _).alloc (Nat.le_refl _) _) (Nat.le_refl _)) (Nat.le_refl _) (by have := hb2.size; simp; omega) (hb2.alloc hb2.size _)
        rw [← entsCells_snoc, ← HE.out] at own1
        have H := Lib.hid (And.intro own1 hb3)
        clear own1 hb3 hg1 hown2 hb2 hc hc1 hc2 hc3
        go_roundw
        case rel => exact ⟨k + 1, n + 1, by omega, by go_num, by omega, by rw [HE.out, List.length_append, ← HN.out]; rfl, H.out.1, H.out.2⟩
        case measure => simp [intOf]; omega
    · have hkl : k = l.length := by omega
      have hn2 := HN.out
      rw [hkl, List.take_length] at hown hn2
      rw [hn2] at hown
      have H := Lib.hid (And.intro hown hb)
      clear hcell hkl hown hb hn2 HN hn
      go_wp2
      go_ret
      exact ⟨_, rfl, H.out.1, H.out.2⟩

set_option maxHeartbeats 2000000 in
theorem leaf1_any (e : Ent) (A : Option Addr) (c : Nat) (l : List RM) (B g : Nat) (w : World) (h : SlD w B (.slice A l.length c) l) (hB : B ≤ w.heap.size) (hp : w.cell? ⟨g, 0, none⟩ = some (.slice A l.length c)) :
    Calls Try.prog 33 #[entV e, .pointer (some ⟨g, 0, none⟩)] w fun r w' => r = .returned (.bool (leafB (l.map RM.d) e)) ∧ Below w.heap.size w w' := by
  have hR : ∀ W, Below w.heap.size w W → Calls Try.prog 34 #[.agg #[.slice A l.length c], .int .i64 e.rule] W fun e' w' => e' = .returned (.bool (inB e.rule 0 ((l.length : Int) - 1))) ∧ Below W.heap.size W w' := fun W hb =>
    hasRule_any _ l e.rule B W (h.below (hb.mono hB))
  have HR := Lib.hid hR
  have hlt := World.block_lt_of_cell? w _ hp
  unfold entV
  have hb0 := Below.allocW w (.cells #[.string e.path, .int .i64 e.rule, .int .i64 e.start, .int .i64 e.stop] 47) (Nat.le_refl _)
  have cp := cell_later hb0 hp
  have c1 : (w.alloc (.cells #[.string e.path, .int .i64 e.rule, .int .i64 e.start, .int .i64 e.stop] 47)).cell? ⟨w.heap.size, 1, none⟩ = some (.int .i64 e.rule) := by simp [go_sem]
  cases hi : inB e.rule 0 ((l.length : Int) - 1)
  · have HX := Lib.hid (leafB_no (D := l.map RM.d) (e := e) (by rw [List.length_map]; exact hi))
    rw [hi] at HR
    clear hi h hR
    go_enter Try.func33, Try.ntmps33
    go_wp2_with fail
    refine (HR.out _ hb0).mono ?_
    rintro e w1 ⟨rfl, bel⟩
    have b1 := below_step bel hb0
    clear bel
    go_wp2
    go_ret
    exact ⟨ret_bool HX.out.symm, b1⟩
  · obtain ⟨k, hk, he, hx⟩ := leafB_at (D := l.map RM.d) (e := e) (by rw [List.length_map]; exact hi)
    have hkl : k < l.length := by simpa using hk
    rw [List.getElem_map] at hx
    have HX := Lib.hid (show leafB (l.map RM.d) e = leafK l[k].d.kind from hx)
    rw [hi] at HR
    obtain ⟨b, off, A1, c1', A2, c2, A3, c3, A4, c4, rfl, hbB, -, -, -, -, m1, m2, m3, m4, hcell⟩ := rule_cells h k hkl
    have HC := Lib.hid hcell
    have hR0 := HR.out _ hb0
    rw [he] at hR0 c1 cp hb0 ⊢
    clear hi h hR HR hcell m1 m2 m3 m4 hx hk
    generalize l[k] = r at *
    go_enter Try.func33, Try.ntmps33
    go_wp2_with fail
    refine hR0.mono ?_
    rintro e w1 ⟨rfl, bel⟩
    have b1 := below_step bel hb0
    have d1 := cell_later bel c1
    have dp := cell_later bel cp
    obtain ⟨-, x1, -, -, -, -, -, -⟩ := HC.out w1 (below_cells b1 hB)
    clear bel cp c1 hR0
    obtain ⟨kind, hkind⟩ : ∃ x, r.d.kind = x := ⟨_, rfl⟩
    rw [hkind] at x1 HX
    clear HC hkind r
    by_cases q1 : kind = 1
    · subst q1
      go_wp2
      go_ret
      exact ⟨ret_bool HX.out.symm, b1⟩
    by_cases q2 : kind = 2
    · subst q2
      go_wp2
      go_ret
      exact ⟨ret_bool HX.out.symm, b1⟩
    by_cases q3 : kind = 3
    · subst q3
      go_wp2
      go_ret
      exact ⟨ret_bool HX.out.symm, b1⟩
    by_cases q4 : kind = 4
    · subst q4
      go_wp2
      go_ret
      exact ⟨ret_bool HX.out.symm, b1⟩
    by_cases q10 : kind = 10
    · subst q10
      go_wp2
      go_ret
      exact ⟨ret_bool HX.out.symm, b1⟩
    have e1 : (kind == 1) = false := beq_eq_false_iff_ne.2 q1
    have e2 : (kind == 2) = false := beq_eq_false_iff_ne.2 q2
    have e3 : (kind == 3) = false := beq_eq_false_iff_ne.2 q3
    have e4 : (kind == 4) = false := beq_eq_false_iff_ne.2 q4
    have e10 : (kind == 10) = false := beq_eq_false_iff_ne.2 q10
    have HY := Lib.hid (HX.out.trans (show leafK kind = false by unfold leafK; rw [e1, e2, e3, e4, e10]; rfl))
    clear q1 q2 q3 q4 q10
    go_wp2
    go_ret
    exact ⟨ret_bool HY.out.symm, b1⟩
theorem implLeaf_any (v u : Value) (l : List RM) (E : List Ent) (B : Nat) (w : World) (h : SlD w B v l) (h2 : SlE w B u E) (hB : B ≤ w.heap.size) (hl : E.length ≤ 1048576) :
    Calls Try.prog 13 #[.agg #[v], u] w (Fresh w 47 4 (E.filter (leafB (l.map RM.d))).length (entsCells (E.filter (leafB (l.map RM.d))))) := by
  have hmf : ∀ (fn : Fn) (first cap : Array Value) (w : World), (Instr.makeFunc fn first cap).run Try.prog w = .ok (.func fn first cap) w := fun _ _ _ _ => rfl
  obtain ⟨A, c, rfl, hc, hm, -⟩ := h.open_
  have hb0 := Below.allocW w (.cells #[.slice A l.length c] 32) (Nat.le_refl _)
  have cp : (w.alloc (.cells #[.slice A l.length c] 32)).cell? ⟨w.heap.size, 0, none⟩ = some (.slice A l.length c) := by simp [go_sem]
  go_enter Try.func13, Try.ntmps13
  go_wp2_with fail
  refine (select_leaf _ (leafB (l.map RM.d)) u E B _ (h2.below (hb0.mono hB)) (by simp; omega) hl (fun e _ W hW => leaf1_any e A c l B w.heap.size W ((h.below (hb0.mono hB)).below (hW.mono (by simp; omega))) (by have := hW.size; simp at this; omega) (cell_later hW cp))).mono ?_
  rintro e w2 ⟨v2, rfl, own2, hb2⟩
  have H := Lib.hid (And.intro (own_base (base' := w.heap.size) own2 (by simp)) (below_step hb2 hb0))
  clear own2 hb2
  go_wp2
  go_ret
  exact ⟨_, rfl, H.out.1, H.out.2⟩
set_option maxHeartbeats 2000000 in
set_option maxRecDepth 100000 in
theorem specLeaf_any (v u : Value) (l : List RM) (E : List Ent) (B : Nat) (w : World) (h : SlD w B v l) (h2 : SlE w B u E) (hB : B ≤ w.heap.size) (hl : E.length ≤ 1048576):
    Calls Try.prog 10 #[.agg #[v], u] w (Fresh w 47 4 (E.filter (leafB (l.map RM.d))).length (entsCells (E.filter (leafB (l.map RM.d))))) := by
  obtain ⟨i0, hi, hz0, hz1, hz2⟩ := info_parts Try.info_entry
  have HRC := Lib.hid (fun A c (e : v = .slice A l.length c) => rule_cells (e ▸ h))
  obtain ⟨A, c, rfl, hc, hm, -⟩ := h.open_
  obtain ⟨A2, cc, rfl, hc2, hm2, hcell⟩ := h2.open_
  unfold maxLen at hm hm2
  have HR := Lib.hid (HRC.out A c rfl)
  have hb0 := Below.allocW w (.cells #[.slice A l.length c] 32) (Nat.le_refl _)
  have cp : (w.alloc (.cells #[.slice A l.length c] 32)).cell? ⟨w.heap.size, 0, none⟩ = some (.slice A l.length c) := by simp [go_sem]
  clear h h2 HRC
  go_enter Try.func10, Try.ntmps10
  go_wp2
  go_loopw [5, 6] (fun o i wr => ∃ k n : Nat, k ≤ E.length ∧ i = .int .i64 k ∧ n ≤ k ∧ n = ((E.take k).filter (leafB (l.map RM.d))).length ∧ wr.ownsRow (w.heap.size + 1) 47 4 o n (entsCells ((E.take k).filter (leafB (l.map RM.d)))) ∧ Below (w.heap.size + 1) (w.alloc (.cells #[.slice A l.length c] 32)) wr) (fun _ i _ => E.length - (intOf i).toNat)
  case atStart => exact ⟨0, 0, Nat.zero_le _, rfl, Nat.le_refl _, rfl, by have := own_empty (w.alloc (.cells #[.slice A l.length c] 32)) 47 4; simp only [World.size_alloc] at this; exact this, (Below.refl _ _).alloc (by simp) _⟩
  case round =>
    obtain ⟨k, n, hk, rfl, hn, hne, hown, hb⟩ := hrel
    have HN := Lib.hid hne
    clear hne
    have hbw : Below w.heap.size w wr := hb0.trans (hb.mono (by omega))
    have hsz := hb.size
    simp only [World.size_alloc] at hsz
    have dp : wr.cell? ⟨w.heap.size, 0, none⟩ = some (.slice A l.length c) := (hb.cell (p := ⟨w.heap.size, 0, none⟩) (by show w.heap.size < _; omega)).trans cp
    by_cases hlt : k < E.length
    · obtain ⟨b, off, rfl, hbB, hc0, hc1, hc2, hc3⟩ := hcell k hlt
      have hd0 : wr.cell? ⟨b, off + k * 4, none⟩ = some (.string E[k].path) := (hbw.cell (p := ⟨b, off + k * 4, none⟩) (by show b < _; omega)).trans hc0
      have hd1 : wr.cell? ⟨b, off + k * 4 + 1, none⟩ = some (.int .i64 E[k].rule) := (hbw.cell (p := ⟨b, off + k * 4 + 1, none⟩) (by show b < _; omega)).trans hc1
      have hd2 : wr.cell? ⟨b, off + k * 4 + 2, none⟩ = some (.int .i64 E[k].start) := (hbw.cell (p := ⟨b, off + k * 4 + 2, none⟩) (by show b < _; omega)).trans hc2
      have hd3 : wr.cell? ⟨b, off + k * 4 + 3, none⟩ = some (.int .i64 E[k].stop) := (hbw.cell (p := ⟨b, off + k * 4 + 3, none⟩) (by show b < _; omega)).trans hc3
      have hblt := World.block_lt_of_cell? wr _ hd0
      clear hcell hc0 hc1 hc2 hc3 hbB hb0 cp
      have hno : leafB (l.map RM.d) E[k] = false → _ := fun q => filter_no hlt q
      have hye : leafB (l.map RM.d) E[k] = true → _ := fun q => filter_yes hlt q
      cases hi : inB E[k].rule 0 ((l.length : Int) - 1)
      · have HE := Lib.hid (hno (leafB_no (by rw [List.length_map]; exact hi)))
        have HI := Lib.hid hi
        have H := Lib.hid (And.intro hown hb)
        clear hown hb hi hno hye hbw
        go_wp2_with fail
        go_quiet (first | (go_at_call 29; refine Calls.quiet_of_same ((l1In_any _ _ _ _).mono fun e w' hq => ⟨by rw [hq.1, HI.out], hq.2.symm⟩)))
        go_wp2
        go_roundw
        case rel => exact ⟨k + 1, n, by omega, by go_num, by omega, by rw [HE.out]; exact HN.out, by rw [HE.out]; exact H.out.1, below_drewN H.out.2 _⟩
        case measure => simp [intOf]; omega
      · obtain ⟨q, hq, he, hx⟩ := leafB_at (D := l.map RM.d) (e := E[k]) (by rw [List.length_map]; exact hi)
        have hql : q < l.length := by simpa using hq
        rw [List.getElem_map] at hx
        obtain ⟨b', off', A1, c1', A2', c2', A3, c3', A4, c4, rfl, hbB, -, -, -, -, -, -, -, -, hcr⟩ := HR.out q hql
        obtain ⟨-, x1, -, -, -, -, -, -⟩ := hcr wr (below_cells hbw hB)
        have hx : leafB (l.map RM.d) E[k] = leafK l[q].d.kind := hx
        have HI := Lib.hid hi
        have hqi : (q : Int) < l.length := by omega
        generalize l[q].d.kind = kind at *
        generalize E[k] = e at *
        obtain ⟨pa, ru, st, en⟩ := e
        dsimp only at he hd0 hd1 hd2 hd3 HI
        subst he
        clear hi hq hcr
        cases hq2 : leafK kind
        · have HE := Lib.hid (hno (hx.trans hq2))
          have e1 : (kind == 1) = false := by cases h : (kind == 1) <;> simp [leafK, h] at hq2 ⊢
          have e2 : (kind == 2) = false := by cases h : (kind == 2) <;> simp [leafK, h] at hq2 ⊢
          have e3 : (kind == 3) = false := by cases h : (kind == 3) <;> simp [leafK, h] at hq2 ⊢
          have e4 : (kind == 4) = false := by cases h : (kind == 4) <;> simp [leafK, h] at hq2 ⊢
          have e10 : (kind == 10) = false := by cases h : (kind == 10) <;> simp [leafK, h] at hq2 ⊢
          have H := Lib.hid (And.intro hown hb)
          clear hown hb hno hye hbw hx hq2
          go_wp2_with fail
          go_quiet (first | (go_at_call 29; refine Calls.quiet_of_same ((l1In_any _ _ _ _).mono fun e w' hq => ⟨by rw [hq.1, HI.out], hq.2.symm⟩)))
          go_wp2_with fail
          go_quiet (fail)
          go_wp2
          go_roundw
          case rel => exact ⟨k + 1, n, by omega, by go_num, by omega, by rw [HE.out]; exact HN.out, by rw [HE.out]; exact H.out.1, below_drewN H.out.2 _⟩
          case measure => simp [intOf]; omega
        · have HE := Lib.hid (hye (hx.trans hq2))
          have h5 : kind = 1 ∨ kind = 2 ∨ kind = 3 ∨ kind = 4 ∨ kind = 10 := by
            unfold leafK at hq2
            simp only [Bool.or_eq_true, beq_iff_eq] at hq2
            omega
          clear hno hye hbw hx hq2
          have hsz2 : w.heap.size ≤ wr.heap.size := by omega
          rcases h5 with rfl | rfl | rfl | rfl | rfl
          all_goals
            go_wp2_with fail
            go_quiet (first | (go_at_call 29; refine Calls.quiet_of_same ((l1In_any _ _ _ _).mono fun e w' hq => ⟨by rw [hq.1, HI.out], hq.2.symm⟩)))
            go_wp2_with fail
            go_quiet (fail)
            go_wp2_with (at_builtin; refine wpList_app _ rfl (.tmp 41) (.tmp 46) 28 rfl (w.heap.size + 1) 47 i0 (.agg #[.string ⟨#[]⟩, .int .i64 0, .int .i64 0, .int .i64 0]) 4 40 Try.underlying28 hi hz0 hz1 hz2 rfl (by decide) _ n _ rfl (own_below hown ((below_drewN (Below.refl _ _) _).alloc (Nat.le_refl _) _) (Nat.le_refl _)) _ 1 _ (entCells ⟨pa, (q : Int), st, en⟩) rfl (sl_ent_one (e := ⟨pa, (q : Int), st, en⟩) (by simp)) (entCells_one _) (by omega) (by unfold maxLen; omega) (by simp; omega) ?_; intro v1 w1 own1 hg1 _)
            have hb1 := below_app hg1 (own_below hown ((below_drewN (Below.refl _ _) _).alloc (Nat.le_refl _) _) (Nat.le_refl _)) (Nat.le_refl _) (by simp; omega) ((below_drewN hb _).alloc (by simp; omega) _)
            rw [← entsCells_snoc, ← HE.out] at own1
            have H := Lib.hid (And.intro own1 hb1)
            clear own1 hb1 hg1 hown hb hd0 hd1 hd2 hd3
            go_roundw
            case rel => exact ⟨k + 1, n + 1, by omega, by go_num, by omega, by rw [HE.out, List.length_append, ← HN.out]; rfl, H.out.1, H.out.2⟩
            case measure => simp [intOf]; omega
    · have hkl : k = E.length := by omega
      have hn2 := HN.out
      rw [hkl, List.take_length] at hown hn2
      rw [hn2] at hown
      have H := Lib.hid (And.intro (own_base (base' := w.heap.size) hown (by omega)) hbw)
      clear hcell hkl hown hb hn2 HN hn hbw hb0
      go_wp2
      go_ret
      exact ⟨_, rfl, H.out.1, H.out.2⟩
theorem specLeaf_law {w : World} {v u : Value} {D : List RuleD} {E : List Ent} {lo hi lo' hi' : Nat} (h : OwD D lo hi w v) (h2 : OwE E lo' hi' w u) (hl : E.length ≤ 1048576) :
    Calls Try.prog 10 #[.agg #[v], u] w (Made (OwE (E.filter (leafB D))) w) := by
  obtain ⟨l, rfl, s⟩ := h.sl
  exact made_of_fresh (specLeaf_any v u l E _ w s h2.sl (Nat.le_refl _) hl)
theorem implLeaf_law {w : World} {v u : Value} {D : List RuleD} {E : List Ent} {lo hi lo' hi' : Nat} (h : OwD D lo hi w v) (h2 : OwE E lo' hi' w u) (hl : E.length ≤ 1048576) :
    Calls Try.prog 13 #[.agg #[v], u] w (Made (OwE (E.filter (leafB D))) w) := by
  obtain ⟨l, rfl, s⟩ := h.sl
  exact made_of_fresh (implLeaf_any v u l E _ w s h2.sl (Nat.le_refl _) hl)
end Go.Proofs.Ytnbemdcdokhknaa
