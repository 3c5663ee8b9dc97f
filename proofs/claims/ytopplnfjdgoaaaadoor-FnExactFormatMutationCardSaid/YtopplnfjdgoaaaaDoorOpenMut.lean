/- How a mutation is read from what a caller hands in. -/
import Derived.Test.YtopplnfjdgoaaaaDoorMut
import Derived.Test.YtopplnfjdgoaaaaDoorOpen
namespace Go.Proofs.YtopplnfjdgoaaaaDoor
open Go.ChangeShapes Go.WideShapes Go.ChangeAt Go.RowKit
section
variable {H : Type} {enc : TypeId × Value → H} {w : World}
set_option maxRecDepth 100000 in
theorem trod_muta {n : Nat} {cs : List Value} {y : DataW H × List MemPlace} (h : DataW.trod enc Tryd.prog w 0 (fun _ => true) true n 23 cs = some y) : ∃ e : Muta, cs = mutCells e ∧ e.ok := by
  obtain ⟨xs, m, _, _, hlen, hxl, hg⟩ := DataW.trod_struct Tryd.underlying23 h
  have hlen4 : cs.length = 3 := hlen
  match cs, hlen4 with
  | [c0, c1, c2], _ =>
    match xs, hxl with
    | [y0, y1, y2], _ =>
      have h0 := hg 0 _ rfl
      have h1 := hg 1 _ rfl
      have h2 := hg 2 _ rfl
      obtain ⟨a, e1, _, ha⟩ := DataW.trod_int Tryd.underlying3 h0
      obtain ⟨b, e2, _, hb⟩ := DataW.trod_int Tryd.underlying3 h1
      obtain ⟨c, e3, _, hc⟩ := DataW.trod_int Tryd.underlying3 h2
      have g0 : [c0] = [.int .i64 a] := e1
      have g1 : [c1] = [.int .i64 b] := e2
      have g2 : [c2] = [.int .i64 c] := e3
      simp only [List.cons.injEq, and_true] at g0 g1 g2
      subst g0 g1 g2
      exact ⟨⟨a, b, c⟩, rfl, wf_i64_bd ha, wf_i64_bd hb, wf_i64_bd hc⟩
end
end Go.Proofs.YtopplnfjdgoaaaaDoor
