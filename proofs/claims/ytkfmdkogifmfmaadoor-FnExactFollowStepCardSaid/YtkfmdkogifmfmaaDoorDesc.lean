/- Descriptions: the data of a rule, how a slice of rules reads in memory. No condition. -/
import Derived.Test.YtkfmdkogifmfmaaDoorRows
import Derived.Test.YtkfmdkogifmfmaaDoorOpen
import Derived.Test.YtkfmdkogifmfmaaDoorByte
import Derived.Lib.SmallJoins
namespace Go.Proofs.YtkfmdkogifmfmaaDoor
set_option linter.unusedSimpArgs false
set_option linter.unusedVariables false
open Go.ChangeShapes Go.WideShapes Go.ChangeAt Go.RowKit Go.Deep

structure RuleD where
  name : ByteArray
  kind : Int
  size : Int
  little : Bool
  bytes : List UInt8
  names : List ByteArray
  tags : List Int
  kids : List Int
/-- A rule in memory: its data, and the slices that hold its lists. -/
structure RM where
  d : RuleD
  vb : Value
  vn : Value
  vt : Value
  vk : Value
def rmCells (r : RM) : List Value := [.string r.d.name, .int .i64 r.d.kind, .int .i64 r.d.size, .bool r.d.little, r.vb, r.vn, r.vt, r.vk]
/-- The slices of a rule read as its lists. -/
structure RM.rd (w : World) (B : Nat) (r : RM) : Prop where
  b : SlB w B r.vb r.d.bytes
  n : SlS w B r.vn r.d.names
  t : SlI w B r.vt r.d.tags
  k : SlI w B r.vk r.d.kids
theorem RM.rd.below {w w' : World} {B : Nat} {r : RM} (h : r.rd w B) (hb : Below B w w') : r.rd w' B := ⟨h.b.below hb, h.n.below hb, h.t.below hb, h.k.below hb⟩
theorem RM.rd.more {w : World} {B B' : Nat} {r : RM} (h : r.rd w B) (hB : B ≤ B') : r.rd w B' := ⟨h.b.more hB, h.n.more hB, h.t.more hB, h.k.more hB⟩
/-- What is known of a rule that came in. -/
structure RuleD.ok (r : RuleD) : Prop where
  name : r.name.size ≤ maxLen
  kind : InI64 r.kind
  size : InI64 r.size
  names : ∀ s ∈ r.names, s.size ≤ maxLen
  tags : ∀ a ∈ r.tags, InI64 a
  kids : ∀ a ∈ r.kids, InI64 a
/-- The slice v reads as the rules l. -/
def SlD (w : World) (B : Nat) (v : Value) (l : List RM) : Prop := Sl w B 8 v l.length (l.flatMap rmCells) ∧ ∀ r ∈ l, r.rd w B
theorem SlD.below {w w' : World} {B : Nat} {v : Value} {l : List RM} (h : SlD w B v l) (hb : Below B w w') : SlD w' B v l := ⟨Sl.below h.1 hb, fun r hr => (h.2 r hr).below hb⟩
theorem SlD.more {w : World} {B B' : Nat} {v : Value} {l : List RM} (h : SlD w B v l) (hB : B ≤ B') : SlD w B' v l := ⟨Sl.more h.1 hB, fun r hr => (h.2 r hr).more hB⟩
theorem rmCells_length (r : RM) : (rmCells r).length = 8 := rfl
theorem SlD.open_ {w : World} {B : Nat} {v : Value} {l : List RM} (h : SlD w B v l) : ∃ A c, v = .slice A l.length c ∧ l.length ≤ c ∧ c ≤ maxLen ∧
    (∀ k (hk : k < l.length), ∃ b off, A = some ⟨b, off, none⟩ ∧ b < B ∧ w.cell? ⟨b, off + k * 8, none⟩ = some (.string l[k].d.name) ∧ w.cell? ⟨b, off + k * 8 + 1, none⟩ = some (.int .i64 l[k].d.kind) ∧
      w.cell? ⟨b, off + k * 8 + 2, none⟩ = some (.int .i64 l[k].d.size) ∧ w.cell? ⟨b, off + k * 8 + 3, none⟩ = some (.bool l[k].d.little) ∧ w.cell? ⟨b, off + k * 8 + 4, none⟩ = some l[k].vb ∧
      w.cell? ⟨b, off + k * 8 + 5, none⟩ = some l[k].vn ∧ w.cell? ⟨b, off + k * 8 + 6, none⟩ = some l[k].vt ∧ w.cell? ⟨b, off + k * 8 + 7, none⟩ = some l[k].vk) := by
  obtain ⟨_, A, c, rfl, hc, hm, hr⟩ := h.1
  refine ⟨A, c, rfl, hc, hm, fun k hk => ?_⟩
  obtain ⟨b, off, e, hb, hcell⟩ := hr (by omega)
  have hat : ∀ j u, j < 8 → (rmCells l[k])[j]? = some u → w.cell? ⟨b, off + k * 8 + j, none⟩ = some u := fun j u hj hu => by
    rw [Nat.add_assoc]; exact hcell (k * 8 + j) u (by rw [flatMap_at rmCells 8 rmCells_length l k j hk hj]; exact hu)
  exact ⟨b, off, e, hb, hat 0 _ (by omega) rfl, hat 1 _ (by omega) rfl, hat 2 _ (by omega) rfl, hat 3 _ (by omega) rfl, hat 4 _ (by omega) rfl, hat 5 _ (by omega) rfl, hat 6 _ (by omega) rfl, hat 7 _ (by omega) rfl⟩

section
variable {H : Type} {enc : TypeId × Value → H} {w : World}
set_option maxRecDepth 100000 in
theorem trod_rule {n : Nat} {cs : List Value} {y : DataW H × List MemPlace} (h : DataW.trod enc Tryd.prog w 0 (fun _ => true) true n 75 cs = some y) : ∃ r : RM, cs = rmCells r ∧ r.rd w w.heap.size ∧ r.d.ok := by
  obtain ⟨xs, m, _, _, hlen, hxl, hg⟩ := DataW.trod_struct Tryd.underlying75 h
  have hlen8 : cs.length = 8 := hlen
  match cs, hlen8 with
  | [c0, c1, c2, c3, c4, c5, c6, c7], _ =>
    match xs, hxl with
    | [y0, y1, y2, y3, y4, y5, y6, y7], _ =>
      have h0 := hg 0 _ rfl
      have h1 := hg 1 _ rfl
      have h2 := hg 2 _ rfl
      have h3 := hg 3 _ rfl
      have h4 := hg 4 _ rfl
      have h5 := hg 5 _ rfl
      have h6 := hg 6 _ rfl
      have h7 := hg 7 _ rfl
      obtain ⟨s, e0, _, hs⟩ := DataW.trod_string Tryd.underlying9 h0
      obtain ⟨a, e1, _, ha⟩ := DataW.trod_int Tryd.underlying3 h1
      obtain ⟨b, e2, _, hb⟩ := DataW.trod_int Tryd.underlying3 h2
      obtain ⟨c, e3, _⟩ := DataW.trod_bool Tryd.underlying4 h3
      have f4 : DataW.trod enc Tryd.prog w 0 (fun _ => true) true _ 40 [c4] = some y4 := h4
      have f5 : DataW.trod enc Tryd.prog w 0 (fun _ => true) true _ 55 [c5] = some y5 := h5
      have f6 : DataW.trod enc Tryd.prog w 0 (fun _ => true) true _ 56 [c6] = some y6 := h6
      have f7 : DataW.trod enc Tryd.prog w 0 (fun _ => true) true _ 56 [c7] = some y7 := h7
      obtain ⟨lb, wb⟩ := trod_bytes Tryd.underlying40 Tryd.underlying5 (by kernel_rfl) f4
      obtain ⟨ln, wn, bn⟩ := trod_strings Tryd.underlying55 Tryd.underlying9 (by kernel_rfl) f5
      obtain ⟨lt, wt, bt⟩ := trod_i64s Tryd.underlying56 Tryd.underlying3 (by kernel_rfl) f6
      obtain ⟨lk, wk, bk⟩ := trod_i64s Tryd.underlying56 Tryd.underlying3 (by kernel_rfl) f7
      have g0 : [c0] = [.string s] := e0
      have g1 : [c1] = [.int .i64 a] := e1
      have g2 : [c2] = [.int .i64 b] := e2
      have g3 : [c3] = [.bool c] := e3
      simp only [List.cons.injEq, and_true] at g0 g1 g2 g3
      subst g0 g1 g2 g3
      exact ⟨⟨⟨s, a, b, c, lb, ln, lt, lk⟩, c4, c5, c6, c7⟩, rfl, ⟨wb, wn, wt, wk⟩, ⟨hs, wf_i64_bd ha, wf_i64_bd hb, bn, bt, bk⟩⟩
theorem trod_rules {fuel : Nat} {v : Value} {x : DataW H × List MemPlace} (h : DataW.trod enc Tryd.prog w 0 (fun _ => true) true fuel 22 [v] = some x) :
    ∃ l : List RM, SlD w w.heap.size v l ∧ ∀ r ∈ l, r.d.ok := by
  obtain ⟨l, hl, hq⟩ := open_list Tryd.underlying22 (by kernel_rfl) (by omega) rmCells (fun r => r.rd w w.heap.size ∧ r.d.ok) rmCells_length h fun _ _ _ hy => trod_rule hy
  exact ⟨l, ⟨hl, fun r hr => (hq r hr).1⟩, fun r hr => (hq r hr).2⟩
set_option maxRecDepth 100000 in
theorem trod_desc {n : Nat} {cs : List Value} {y : DataW H × List MemPlace} (h : DataW.trod enc Tryd.prog w 0 (fun _ => true) true n 24 cs = some y) :
    ∃ v, ∃ l : List RM, cs = [v] ∧ SlD w w.heap.size v l ∧ ∀ r ∈ l, r.d.ok := by
  obtain ⟨xs, m, _, _, hlen, hxl, hg⟩ := DataW.trod_struct Tryd.underlying24 h
  have hlen1 : cs.length = 1 := hlen
  match cs, hlen1 with
  | [c0], _ =>
    match xs, hxl with
    | [y0], _ =>
      have h0 := hg 0 _ rfl
      have f0 : DataW.trod enc Tryd.prog w 0 (fun _ => true) true _ 22 [c0] = some y0 := h0
      obtain ⟨l, hl, hok⟩ := trod_rules f0
      exact ⟨c0, l, rfl, hl, hok⟩
end
end Go.Proofs.YtkfmdkogifmfmaaDoor
