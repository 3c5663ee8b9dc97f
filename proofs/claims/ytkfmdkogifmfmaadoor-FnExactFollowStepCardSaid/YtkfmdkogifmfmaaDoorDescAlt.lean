/- The walks of Alternatives. Conditions: the description reads as its rules, which are small. -/
import Derived.Test.YtkfmdkogifmfmaaDoorDescO
import Derived.WalkSpells
import Derived.WalkLawsBesides
namespace Go.Proofs.YtkfmdkogifmfmaaDoor
set_option linter.unusedSimpArgs false
set_option linter.unusedVariables false
open Go.RowKit
def altR (r : RuleD) : Int := if r.kind = 7 then r.tags.length else if r.kind = 8 then 2 else 1
/-- How many alternatives a rule has. -/
def altOf (D : List RuleD) (i : Int) : Int := if knownD D i then (match ruleAt D i with | none => 0 | some r => altR r) else 0
theorem knownD_at {D : List RuleD} {i : Int} (h : knownD D i = true) : 0 ≤ i ∧ i < D.length := by
  unfold knownD at h
  rw [Bool.and_eq_true] at h
  have := inB_iff.1 h.1
  omega
theorem knownD_valid {D : List RuleD} {i : Int} (h : knownD D i = true) : validD D = true := by
  unfold knownD at h
  rw [Bool.and_eq_true] at h
  exact h.2
/-- The cells of rule k, its slices opened, in every later world. -/
theorem rule_cells {w : World} {B : Nat} {A : Option Addr} {c : Nat} {l : List RM} (h : SlD w B (.slice A l.length c) l) (k : Nat) (hk : k < l.length) :
    ∃ b off A1 c1 A2 c2 A3 c3 A4 c4, A = some ⟨b, off, none⟩ ∧ b < B ∧ l[k].vb = .slice A1 l[k].d.bytes.length c1 ∧ l[k].vn = .slice A2 l[k].d.names.length c2 ∧ l[k].vt = .slice A3 l[k].d.tags.length c3 ∧ l[k].vk = .slice A4 l[k].d.kids.length c4 ∧
      l[k].d.bytes.length ≤ maxLen ∧ l[k].d.names.length ≤ maxLen ∧ l[k].d.tags.length ≤ maxLen ∧ l[k].d.kids.length ≤ maxLen ∧
      ∀ W : World, (∀ b o, b < B → W.cell? ⟨b, o, none⟩ = w.cell? ⟨b, o, none⟩) → W.cell? ⟨b, off + k * 8, none⟩ = some (.string l[k].d.name) ∧ W.cell? ⟨b, off + k * 8 + 1, none⟩ = some (.int .i64 l[k].d.kind) ∧
      W.cell? ⟨b, off + k * 8 + 2, none⟩ = some (.int .i64 l[k].d.size) ∧ W.cell? ⟨b, off + k * 8 + 3, none⟩ = some (.bool l[k].d.little) ∧ W.cell? ⟨b, off + k * 8 + 4, none⟩ = some (.slice A1 l[k].d.bytes.length c1) ∧
      W.cell? ⟨b, off + k * 8 + 5, none⟩ = some (.slice A2 l[k].d.names.length c2) ∧ W.cell? ⟨b, off + k * 8 + 6, none⟩ = some (.slice A3 l[k].d.tags.length c3) ∧ W.cell? ⟨b, off + k * 8 + 7, none⟩ = some (.slice A4 l[k].d.kids.length c4) := by
  obtain ⟨A0, c0, e0, hc, hm, hcell⟩ := h.open_
  simp only [Value.slice.injEq] at e0
  obtain ⟨rfl, _, rfl⟩ := e0
  obtain ⟨b, off, e, hb, x0, x1, x2, x3, x4, x5, x6, x7⟩ := hcell k hk
  have hr := h.2 l[k] (List.getElem_mem hk)
  obtain ⟨A1, c1, y1, z1, z2, -⟩ := hr.b.open_
  obtain ⟨A2, c2, y2, z3, z4, -⟩ := hr.n.one
  obtain ⟨A3, c3, y3, z5, z6, -⟩ := hr.t.one
  obtain ⟨A4, c4, y4, z7, z8, -⟩ := hr.k.one
  rw [y1] at x4
  rw [y2] at x5
  rw [y3] at x6
  rw [y4] at x7
  refine ⟨b, off, A1, c1, A2, c2, A3, c3, A4, c4, e, hb, y1, y2, y3, y4, by omega, by omega, by omega, by omega, fun W hW => ?_⟩
  exact ⟨(hW _ _ hb).trans x0, (hW _ _ hb).trans x1, (hW _ _ hb).trans x2, (hW _ _ hb).trans x3, (hW _ _ hb).trans x4, (hW _ _ hb).trans x5, (hW _ _ hb).trans x6, (hW _ _ hb).trans x7⟩
theorem below_cells {B : Nat} {w W : World} (h : Below w.heap.size w W) (hB : B ≤ w.heap.size) : ∀ b o, b < B → W.cell? ⟨b, o, none⟩ = w.cell? ⟨b, o, none⟩ := fun b o hb => h.cell (p := ⟨b, o, none⟩) (by show b < _; omega)
end Go.Proofs.YtkfmdkogifmfmaaDoor
