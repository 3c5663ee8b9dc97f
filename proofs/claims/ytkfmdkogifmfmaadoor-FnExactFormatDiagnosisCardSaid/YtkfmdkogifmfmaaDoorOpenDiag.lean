/- A diagnosis: its data, an argument opened, sizes, copies. Condition: its text fits. -/
import Derived.Test.YtkfmdkogifmfmaaDoorOpen
import Derived.Test.YtkfmdkogifmfmaaDoorByte
import Derived.Test.YtkfmdkogifmfmaaDoorOwn
import Derived.Lib.SmallJoins
namespace Go.Proofs.YtkfmdkogifmfmaaDoor
set_option linter.unusedSimpArgs false
set_option linter.unusedVariables false
open Go.ChangeShapes Go.WideShapes Go.ChangeAt Go.RowKit Go.Deep
structure Diag where
  code : Int
  pos : Int
  path : ByteArray
  rule : Int
def diagCells (x : Diag) : List Value := [.int .i64 x.code, .int .i64 x.pos, .string x.path, .int .i64 x.rule]
def Diag.ok (x : Diag) : Prop := InI64 x.code ∧ InI64 x.pos ∧ x.path.size ≤ maxLen ∧ InI64 x.rule
section
variable {H : Type} {enc : TypeId × Value → H} {w : World}
set_option maxRecDepth 100000 in
theorem trod_diag {n : Nat} {cs : List Value} {y : DataW H × List MemPlace} (h : DataW.trod enc Tryd.prog w 0 (fun _ => true) true n 26 cs = some y) : ∃ e : Diag, cs = diagCells e ∧ e.ok := by
  obtain ⟨xs, m, _, _, hlen, hxl, hg⟩ := DataW.trod_struct Tryd.underlying26 h
  have hlen4 : cs.length = 4 := hlen
  match cs, hlen4 with
  | [c0, c1, c2, c3], _ =>
    match xs, hxl with
    | [y0, y1, y2, y3], _ =>
      have h0 := hg 0 _ rfl
      have h1 := hg 1 _ rfl
      have h2 := hg 2 _ rfl
      have h3 := hg 3 _ rfl
      obtain ⟨a, e0, _, ha⟩ := DataW.trod_int Tryd.underlying3 h0
      obtain ⟨b, e1, _, hb⟩ := DataW.trod_int Tryd.underlying3 h1
      obtain ⟨s, e2, _, hs⟩ := DataW.trod_string Tryd.underlying9 h2
      obtain ⟨c, e3, _, hc⟩ := DataW.trod_int Tryd.underlying3 h3
      have g0 : [c0] = [.int .i64 a] := e0
      have g1 : [c1] = [.int .i64 b] := e1
      have g2 : [c2] = [.string s] := e2
      have g3 : [c3] = [.int .i64 c] := e3
      simp only [List.cons.injEq, and_true] at g0 g1 g2 g3
      subst g0 g1 g2 g3
      exact ⟨⟨a, b, s, c⟩, rfl, wf_i64_bd ha, wf_i64_bd hb, hs, wf_i64_bd hc⟩
end
theorem szDiag_law {w0 w : World} (x : Diag) (ok : x.ok) (b : Below w0.heap.size w0 w) (n : Int) (h0 : 0 ≤ n) (h1 : n ≤ 1048576) :
    Calls Tryd.prog 7 #[.agg #[.int .i64 x.code, .int .i64 x.pos, .string x.path, .int .i64 x.rule], .int .i64 n] w (SzL (x.path.size ≤ 1048576) n w) := by
  have he := ok.2.2.1
  unfold maxLen at he
  have hb : Below w.heap.size w (w.alloc (.cells #[.int .i64 x.code, .int .i64 x.pos, .string x.path, .int .i64 x.rule] 26)) := (Below.refl _ _).alloc (Nat.le_refl _) _
  by_cases h : n - x.path.size < 0
  · go_enter Tryd.func7, Tryd.ntmps7
    go_wp2
    go_ret
    exact ⟨-1, rfl, hb, .inl rfl⟩
  · go_enter Tryd.func7, Tryd.ntmps7
    go_wp2
    go_ret
    exact ⟨_, rfl, hb, .inr ⟨by omega, by omega, by omega⟩⟩
theorem toDiag_any (x : Diag) (w : World) : Calls Tryd.prog 10 #[.agg #[.int .i64 x.code, .int .i64 x.pos, .string x.path, .int .i64 x.rule]] w fun e w' => e = .returned (.agg #[.int .i64 x.code, .int .i64 x.pos, .string x.path, .int .i64 x.rule]) ∧ Below w.heap.size w w' := by
  go_enter Tryd.func10, Tryd.ntmps10
  go_wp2
  refine bodyPost_ret (v := .agg #[.int .i64 x.code, .int .i64 x.pos, .string x.path, .int .i64 x.rule]) (by simp [results, Tryd.results10, go_sem]) rfl ⟨rfl, ?_⟩
  exact (by repeat (first | exact Below.refl _ _ | assumption | refine Below.alloc ?_ (by first | omega | (simp <;> omega)) _ | refine Below.setCell ?_ (by first | omega | (simp <;> omega)) _ | refine Below.drew ?_ | refine below_drewN ?_ _))
end Go.Proofs.YtkfmdkogifmfmaaDoor
