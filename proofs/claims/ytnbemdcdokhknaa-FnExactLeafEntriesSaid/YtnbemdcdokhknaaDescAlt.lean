/- The walks of Alternatives. Conditions: the description reads as its rules, which are small. -/
import Derived.Test.YtnbemdcdokhknaaDescO
import Derived.WalkSpells
import Derived.WalkLawsBesides
namespace Go.Proofs.Ytnbemdcdokhknaa
set_option linter.unusedSimpArgs false
set_option linter.unusedVariables false
open Go.RowKit
def altR (r : RuleD) : Int := if r.kind = 7 then r.tags.length else if r.kind = 8 then 2 else 1
/-- How many alternatives a rule has. -/
def altOf (D : List RuleD) (i : Int) : Int := if knownD D i then (match ruleAt D i with | none => 0 | some r => altR r) else 0
theorem knownD_at {D : List RuleD} {i : Int} (h : knownD D i = true) : 0 ≤ i ∧ i < D.length := by
  unfold knownD at h
  rw [Bool.and_eq_true] at h
  have := inB_iff.1 h.1
  omega
theorem knownD_valid {D : List RuleD} {i : Int} (h : knownD D i = true) : validD D = true := by
  unfold knownD at h
  rw [Bool.and_eq_true] at h
  exact h.2
/-- The cells of rule k, its slices opened, in every later world. -/
theorem rule_cells {w : World} {B : Nat} {A : Option Addr} {c : Nat} {l : List RM} (h : SlD w B (.slice A l.length c) l) (k : Nat) (hk : k < l.length) :
    ∃ b off A1 c1 A2 c2 A3 c3 A4 c4, A = some ⟨b, off, none⟩ ∧ b < B ∧ l[k].vb = .slice A1 l[k].d.bytes.length c1 ∧ l[k].vn = .slice A2 l[k].d.names.length c2 ∧ l[k].vt = .slice A3 l[k].d.tags.length c3 ∧ l[k].vk = .slice A4 l[k].d.kids.length c4 ∧
      l[k].d.bytes.length ≤ maxLen ∧ l[k].d.names.length ≤ maxLen ∧ l[k].d.tags.length ≤ maxLen ∧ l[k].d.kids.length ≤ maxLen ∧
      ∀ W : World, (∀ b o, b < B → W.cell? ⟨b, o, none⟩ = w.cell? ⟨b, o, none⟩) → W.cell? ⟨b, off + k * 8, none⟩ = some (.string l[k].d.name) ∧ W.cell? ⟨b, off + k * 8 + 1, none⟩ = some (.int .i64 l[k].d.kind) ∧
      W.cell? ⟨b, off + k * 8 + 2, none⟩ = some (.int .i64 l[k].d.size) ∧ W.cell? ⟨b, off + k * 8 + 3, none⟩ = some (.bool l[k].d.little) ∧ W.cell? ⟨b, off + k * 8 + 4, none⟩ = some (.slice A1 l[k].d.bytes.length c1) ∧
      W.cell? ⟨b, off + k * 8 + 5, none⟩ = some (.slice A2 l[k].d.names.length c2) ∧ W.cell? ⟨b, off + k * 8 + 6, none⟩ = some (.slice A3 l[k].d.tags.length c3) ∧ W.cell? ⟨b, off + k * 8 + 7, none⟩ = some (.slice A4 l[k].d.kids.length c4) := by
  obtain ⟨A0, c0, e0, hc, hm, hcell⟩ := h.open_
  simp only [Value.slice.injEq] at e0
  obtain ⟨rfl, _, rfl⟩ := e0
  obtain ⟨b, off, e, hb, x0, x1, x2, x3, x4, x5, x6, x7⟩ := hcell k hk
  have hr := h.2 l[k] (List.getElem_mem hk)
  obtain ⟨A1, c1, y1, z1, z2, -⟩ := hr.b.open_
  obtain ⟨A2, c2, y2, z3, z4, -⟩ := hr.n.one
  obtain ⟨A3, c3, y3, z5, z6, -⟩ := hr.t.one
  obtain ⟨A4, c4, y4, z7, z8, -⟩ := hr.k.one
  rw [y1] at x4
  rw [y2] at x5
  rw [y3] at x6
  rw [y4] at x7
  refine ⟨b, off, A1, c1, A2, c2, A3, c3, A4, c4, e, hb, y1, y2, y3, y4, by omega, by omega, by omega, by omega, fun W hW => ?_⟩
  exact ⟨(hW _ _ hb).trans x0, (hW _ _ hb).trans x1, (hW _ _ hb).trans x2, (hW _ _ hb).trans x3, (hW _ _ hb).trans x4, (hW _ _ hb).trans x5, (hW _ _ hb).trans x6, (hW _ _ hb).trans x7⟩
theorem below_cells {B : Nat} {w W : World} (h : Below w.heap.size w W) (hB : B ≤ w.heap.size) : ∀ b o, b < B → W.cell? ⟨b, o, none⟩ = w.cell? ⟨b, o, none⟩ := fun b o hb => h.cell (p := ⟨b, o, none⟩) (by show b < _; omega)
set_option maxHeartbeats 2000000 in
theorem specAlt_any (v : Value) (l : List RM) (i : Int) (B : Nat) (w : World) (h : SlD w B v l) (hB : B ≤ w.heap.size) (ok : ∀ r ∈ l, r.d.ok) (sm : ∀ r ∈ l, r.d.small 1048576) :
    Calls Try.prog 19 #[.agg #[v], .int .i64 i] w fun e w' => e = .returned (.int .i64 (altOf (l.map RM.d) i)) ∧ Below w.heap.size w w' := by
  have hK : ∀ W, Below w.heap.size w W → Calls Try.prog 39 #[.agg #[v], .int .i64 i] W fun e w' => e = .returned (.bool (knownD (l.map RM.d) i)) ∧ Below W.heap.size W w' := fun W hb =>
    specKnown_any v l i B W (h.below (hb.mono hB)) (by have := hb.size; omega) ok sm
  obtain ⟨A, c, rfl, hc, hm, -⟩ := h.open_
  unfold maxLen at hm
  have hbD := Below.allocW w (.cells #[.slice A l.length c] 32) (Nat.le_refl _)
  have cD : (w.alloc (.cells #[.slice A l.length c] 32)).cell? ⟨w.heap.size, 0, none⟩ = some (.slice A l.length c) := by simp [go_sem]
  cases hk : knownD (l.map RM.d) i
  · have HX := Lib.hid (show altOf (l.map RM.d) i = 0 by unfold altOf; rw [hk]; rfl)
    rw [hk] at hK
    have HK := Lib.hid hK
    clear hK hk h
    go_enter Try.func19, Try.ntmps19
    go_wp2_with fail
    refine (HK.out _ hbD).mono ?_
    rintro e w1 ⟨rfl, bel⟩
    have b1 := below_step bel hbD
    clear bel
    go_wp2
    go_ret
    exact ⟨ret_int HX.out.symm, b1⟩
  · obtain ⟨h0, h1⟩ := knownD_at hk
    rw [List.length_map] at h1
    obtain ⟨k, hkl, rfl, hat⟩ := ruleAt_some (D := l.map RM.d) h0 (by simpa using h1)
    have hkl : k < l.length := by simpa using hkl
    have HX := Lib.hid (show altOf (l.map RM.d) (k : Int) = altR l[k].d by unfold altOf; rw [if_pos hk, hat, List.getElem_map])
    rw [hk] at hK
    have HK := Lib.hid hK
    obtain ⟨b, off, A1, c1, A2, c2, A3, c3, A4, c4, rfl, hbB, -, -, -, -, m1, m2, m3, m4, hcell⟩ := rule_cells h k hkl
    have HC := Lib.hid hcell
    unfold maxLen at m3
    clear hK hk h hat hcell m1 m2 m4
    generalize l[k] = r at *
    go_enter Try.func19, Try.ntmps19
    go_wp2_with fail
    refine (HK.out _ hbD).mono ?_
    rintro e w1 ⟨rfl, bel⟩
    have b1 := below_step bel hbD
    have cE := cell_later bel cD
    obtain ⟨-, x1, -, -, -, -, x6, -⟩ := HC.out w1 (below_cells b1 hB)
    clear bel cD
    by_cases q7 : r.d.kind = 7
    · have HY := Lib.hid (HX.out.trans (show altR r.d = r.d.tags.length by unfold altR; rw [if_pos q7]))
      rw [q7] at x1
      clear q7
      go_wp2
      go_ret
      exact ⟨ret_int HY.out.symm, b1⟩
    by_cases q8 : r.d.kind = 8
    · have HY := Lib.hid (HX.out.trans (show altR r.d = 2 by unfold altR; rw [if_neg q7, if_pos q8]))
      rw [q8] at x1
      clear q7 q8
      go_wp2
      go_ret
      exact ⟨ret_int HY.out.symm, b1⟩
    · have HY := Lib.hid (HX.out.trans (show altR r.d = 1 by unfold altR; rw [if_neg q7, if_neg q8]))
      have q7' : (r.d.kind == 7) = false := beq_eq_false_iff_ne.2 q7
      have q8' : (r.d.kind == 8) = false := beq_eq_false_iff_ne.2 q8
      clear q7 q8
      go_wp2
      go_ret
      exact ⟨ret_int HY.out.symm, b1⟩
set_option maxHeartbeats 2000000 in
theorem implAlt_any (v : Value) (l : List RM) (i : Int) (B : Nat) (w : World) (h : SlD w B v l) (hB : B ≤ w.heap.size) (ok : ∀ r ∈ l, r.d.ok) (sm : ∀ r ∈ l, r.d.small 1048576) :
    Calls Try.prog 20 #[.agg #[v], .int .i64 i] w fun e w' => e = .returned (.int .i64 (altOf (l.map RM.d) i)) ∧ Below w.heap.size w w' := by
  have hK : ∀ W, Below w.heap.size w W → Calls Try.prog 40 #[.agg #[v], .int .i64 i] W fun e w' => e = .returned (.bool (knownD (l.map RM.d) i)) ∧ Below W.heap.size W w' := fun W hb =>
    implKnown_any v l i B W (h.below (hb.mono hB)) (by have := hb.size; omega) ok sm
  obtain ⟨A, c, rfl, hc, hm, -⟩ := h.open_
  unfold maxLen at hm
  have hbD := Below.allocW w (.cells #[.slice A l.length c] 32) (Nat.le_refl _)
  have cD : (w.alloc (.cells #[.slice A l.length c] 32)).cell? ⟨w.heap.size, 0, none⟩ = some (.slice A l.length c) := by simp [go_sem]
  cases hk : knownD (l.map RM.d) i
  · have HX := Lib.hid (show altOf (l.map RM.d) i = 0 by unfold altOf; rw [hk]; rfl)
    rw [hk] at hK
    have HK := Lib.hid hK
    clear hK hk h
    go_enter Try.func20, Try.ntmps20
    go_wp2_with fail
    refine (HK.out _ hbD).mono ?_
    rintro e w1 ⟨rfl, bel⟩
    have b1 := below_step bel hbD
    clear bel
    go_wp2
    go_ret
    exact ⟨ret_int HX.out.symm, b1⟩
  · obtain ⟨h0, h1⟩ := knownD_at hk
    rw [List.length_map] at h1
    obtain ⟨k, hkl, rfl, hat⟩ := ruleAt_some (D := l.map RM.d) h0 (by simpa using h1)
    have hkl : k < l.length := by simpa using hkl
    have HX := Lib.hid (show altOf (l.map RM.d) (k : Int) = altR l[k].d by unfold altOf; rw [if_pos hk, hat, List.getElem_map])
    rw [hk] at hK
    have HK := Lib.hid hK
    obtain ⟨b, off, A1, c1, A2, c2, A3, c3, A4, c4, rfl, hbB, -, -, -, -, m1, m2, m3, m4, hcell⟩ := rule_cells h k hkl
    have HC := Lib.hid hcell
    unfold maxLen at m3
    clear hK hk h hat hcell m1 m2 m4
    generalize l[k] = r at *
    go_enter Try.func20, Try.ntmps20
    go_wp2_with fail
    refine (HK.out _ hbD).mono ?_
    rintro e w1 ⟨rfl, bel⟩
    have b1 := below_step bel hbD
    have b2 := b1.alloc b1.size (.cells #[.string r.d.name, .int .i64 r.d.kind, .int .i64 r.d.size, .bool r.d.little, .slice A1 r.d.bytes.length c1, .slice A2 r.d.names.length c2, .slice A3 r.d.tags.length c3, .slice A4 r.d.kids.length c4] 52)
    have cE := cell_later bel cD
    obtain ⟨x0, x1, x2, x3, x4, x5, x6, x7⟩ := HC.out w1 (below_cells b1 hB)
    clear bel cD
    by_cases q7 : r.d.kind = 7
    · have HY := Lib.hid (HX.out.trans (show altR r.d = r.d.tags.length by unfold altR; rw [if_pos q7]))
      rw [q7] at x1 b2
      clear q7
      go_wp2
      go_ret
      exact ⟨ret_int HY.out.symm, b2⟩
    by_cases q8 : r.d.kind = 8
    · have HY := Lib.hid (HX.out.trans (show altR r.d = 2 by unfold altR; rw [if_neg q7, if_pos q8]))
      rw [q8] at x1 b2
      clear q7 q8
      go_wp2
      go_ret
      exact ⟨ret_int HY.out.symm, b2⟩
    · have HY := Lib.hid (HX.out.trans (show altR r.d = 1 by unfold altR; rw [if_neg q7, if_neg q8]))
      have q7' : (r.d.kind == 7) = false := beq_eq_false_iff_ne.2 q7
      have q8' : (r.d.kind == 8) = false := beq_eq_false_iff_ne.2 q8
      clear q7 q8
      go_wp2
      go_ret
      exact ⟨ret_int HY.out.symm, b2⟩
theorem specAlt_law {w : World} {v : Value} {D : List RuleD} {lo hi : Nat} {i : Int} (h : OwD D lo hi w v) (hk : okD D) :
    Calls Try.prog 19 #[.agg #[v], .int .i64 i] w fun e w' => e = .returned (.int .i64 (altOf D i)) ∧ Below w.heap.size w w' := by
  obtain ⟨l, rfl, s⟩ := h.sl
  exact specAlt_any v l i _ w s (Nat.le_refl _) hk.l.1 hk.l.2
theorem implAlt_law {w : World} {v : Value} {D : List RuleD} {lo hi : Nat} {i : Int} (h : OwD D lo hi w v) (hk : okD D) :
    Calls Try.prog 20 #[.agg #[v], .int .i64 i] w fun e w' => e = .returned (.int .i64 (altOf D i)) ∧ Below w.heap.size w w' := by
  obtain ⟨l, rfl, s⟩ := h.sl
  exact implAlt_any v l i _ w s (Nat.le_refl _) hk.l.1 hk.l.2
end Go.Proofs.Ytnbemdcdokhknaa
