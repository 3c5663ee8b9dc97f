/- Entries that came in, opened: one by value, a slice of them. No condition. -/
import Derived.Test.YtnbemdcdokhknaaOpen
import Derived.Test.YtnbemdcdokhknaaEntry
import Derived.Lib.SmallJoins
namespace Go.Proofs.Ytnbemdcdokhknaa
set_option linter.unusedSimpArgs false
set_option linter.unusedVariables false
open Go.ChangeShapes Go.WideShapes Go.ChangeAt Go.RowKit Go.Deep

/-- What is known of an entry that came in. -/
def Ent.ok (e : Ent) : Prop := e.path.size ≤ maxLen ∧ InI64 e.rule ∧ InI64 e.start ∧ InI64 e.stop

section
variable {H : Type} {enc : TypeId × Value → H} {w : World}
set_option maxRecDepth 100000 in
theorem trod_ent {n : Nat} {cs : List Value} {y : DataW H × List MemPlace} (h : DataW.trod enc Try.prog w 0 (fun _ => true) true n 45 cs = some y) : ∃ e : Ent, cs = entCells e ∧ e.ok := by
  obtain ⟨xs, m, _, _, hlen, hxl, hg⟩ := DataW.trod_struct Try.underlying45 h
  have hlen4 : cs.length = 4 := hlen
  match cs, hlen4 with
  | [c0, c1, c2, c3], _ =>
    match xs, hxl with
    | [y0, y1, y2, y3], _ =>
      have h0 := hg 0 _ rfl
      have h1 := hg 1 _ rfl
      have h2 := hg 2 _ rfl
      have h3 := hg 3 _ rfl
      obtain ⟨s, e0, _, hs⟩ := DataW.trod_string Try.underlying9 h0
      obtain ⟨a, e1, _, ha⟩ := DataW.trod_int Try.underlying3 h1
      obtain ⟨b, e2, _, hb⟩ := DataW.trod_int Try.underlying3 h2
      obtain ⟨c, e3, _, hc⟩ := DataW.trod_int Try.underlying3 h3
      have g0 : [c0] = [.string s] := e0
      have g1 : [c1] = [.int .i64 a] := e1
      have g2 : [c2] = [.int .i64 b] := e2
      have g3 : [c3] = [.int .i64 c] := e3
      simp only [List.cons.injEq, and_true] at g0 g1 g2 g3
      subst g0 g1 g2 g3
      exact ⟨⟨s, a, b, c⟩, rfl, hs, wf_i64_bd ha, wf_i64_bd hb, wf_i64_bd hc⟩

set_option maxRecDepth 100000 in
theorem trod_ents {fuel : Nat} {v : Value} {x : DataW H × List MemPlace} (h : DataW.trod enc Try.prog w 0 (fun _ => true) true fuel 25 [v] = some x) :
    ∃ l : List Ent, SlE w w.heap.size v l ∧ ∀ e ∈ l, e.ok :=
  open_list Try.underlying25 (by kernel_rfl) (by omega) entCells Ent.ok (fun _ => rfl) h fun _ _ _ hy => trod_ent hy
end
end Go.Proofs.Ytnbemdcdokhknaa
