/- What a law owns: a value whose blocks lie between two numbers; what leaves it as it was. No condition. -/
import Derived.Test.YtkfmdkogifmfmaaDoorRows
import Derived.Test.YtkfmdkogifmfmaaDoorByte
import Derived.WalkSpells
namespace Go.Proofs.YtkfmdkogifmfmaaDoor
set_option linter.unusedSimpArgs false
set_option linter.unusedVariables false
open Go.RowKit

/-- Outside the blocks from lo up to hi nothing that was there has turned. -/
structure Out (lo hi : Nat) (w w' : World) : Prop where
  os : w'.os = w.os
  tape : w'.tape = w.tape
  output : w'.output = w.output
  size : w.heap.size ≤ w'.heap.size
  block : ∀ k, k < w.heap.size → (k < lo ∨ hi ≤ k) → w'.heap[k]? = w.heap[k]?
theorem Out.of_below {w w' : World} (h : Below w.heap.size w w') (lo hi : Nat) : Out lo hi w w' := ⟨h.os, h.tape, h.output, h.size, fun k hk _ => h.block k hk⟩
theorem Out.of_grown {w w' : World} {lo hi : Nat} {row : Option Nat} (h : w.grownBy w' row) (hr : ∀ k, row = some k → lo ≤ k ∧ k < hi) : Out lo hi w w' :=
  ⟨h.os, h.tape, h.output, h.size, fun k hk ho => h.block k hk fun e => by have := hr k e.symm; omega⟩
theorem Out.trans {lo hi : Nat} {a b c : World} (h : Out lo hi a b) (k : Out lo hi b c) : Out lo hi a c :=
  ⟨k.os.trans h.os, k.tape.trans h.tape, k.output.trans h.output, Nat.le_trans h.size k.size, fun i hi ho => (k.block i (Nat.lt_of_lt_of_le hi h.size) ho).trans (h.block i hi ho)⟩
theorem Out.wide {lo hi lo' hi' : Nat} {a b : World} (h : Out lo hi a b) (h1 : lo' ≤ lo) (h2 : hi ≤ hi') : Out lo' hi' a b :=
  ⟨h.os, h.tape, h.output, h.size, fun k hk ho => h.block k hk (by omega)⟩
theorem Out.below {lo hi : Nat} {w a b : World} (h : Out lo hi a b) (hb : Below w.heap.size w a) (hlo : w.heap.size ≤ lo) : Below w.heap.size w b :=
  hb.trans ⟨h.os, h.tape, h.output, h.size, fun k hk => h.block k (Nat.lt_of_lt_of_le hk hb.size) (.inl (by omega))⟩
theorem Out.cell {lo hi : Nat} {w w' : World} (h : Out lo hi w w') {p : Addr} {v : Value} (hc : w.cell? p = some v) (hp : p.block < lo ∨ hi ≤ p.block) : w'.cell? p = some v :=
  (World.cell?_of_block (w := w) (h.block p.block (World.block_lt_of_cell? _ _ hc) hp)).trans hc

/-- The row that v owns, in a block from lo up to hi. -/
def Row (lo hi : Nat) (E : TypeId) (size : Nat) (n : Nat) (xs : List Value) (w : World) (v : Value) : Prop :=
  w.ownsRow lo E size v n xs ∧ ∀ k, v.ownBlock = some k → k < hi
theorem Row.keep {lo hi lo' hi' : Nat} {E : TypeId} {size n : Nat} {xs : List Value} {w w' : World} {v : Value} (h : Row lo hi E size n xs w v) (ho : Out lo' hi' w w') (hd : hi ≤ lo' ∨ hi' ≤ lo) : Row lo hi E size n xs w' v := by
  refine ⟨⟨h.1.1, ?_⟩, h.2⟩
  rcases h.1.2 with hn | ⟨g, cap, cur, rfl, hbb, hg, rest⟩
  · exact .inl hn
  · have hlt : g < hi := h.2 g rfl
    exact .inr ⟨g, cap, cur, rfl, hbb, by rw [ho.block g (Array.getElem?_eq_some_iff.1 hg).1 (by omega)]; exact hg, rest⟩
theorem Row.sl {lo hi : Nat} {E : TypeId} {size n : Nat} {xs : List Value} {w : World} {v : Value} (h : Row lo hi E size n xs w v) : Sl w w.heap.size size v n xs := Sl.of_own h.1

/-- The call returns a new value of its own that meets P. -/
def Made (P : Nat → Nat → World → Value → Prop) (w : World) (e : Ending) (w' : World) : Prop :=
  ∃ v, e = .returned v ∧ P w.heap.size w'.heap.size w' v ∧ Below w.heap.size w w'
theorem Fresh.made {w w' : World} {E : TypeId} {size n : Nat} {xs : List Value} {e : Ending} (h : Fresh w E size n xs e w') : Made (fun lo hi => Row lo hi E size n xs) w e w' := by
  obtain ⟨v, he, ho, hb⟩ := h
  exact ⟨v, he, ⟨ho, fun k hk => (ho.lt k hk).2⟩, hb⟩
theorem made_of_fresh {P : Program} {f : FuncId} {args : Array Value} {w : World} {E : TypeId} {size n : Nat} {xs : List Value} (h : Calls P f args w (Fresh w E size n xs)) :
    Calls P f args w (Made (fun lo hi => Row lo hi E size n xs) w) := h.mono fun _ _ => Fresh.made
/-- The same with more results behind it. -/
def Made2 (P : Nat → Nat → World → Value → Prop) (u : Value) (w : World) (e : Ending) (w' : World) : Prop :=
  ∃ v, e = .returned (.tuple #[v, u]) ∧ P w.heap.size w'.heap.size w' v ∧ Below w.heap.size w w'
def True1 (w : World) (e : Ending) (w' : World) : Prop := e = .returned (.bool true) ∧ Below w.heap.size w w'

/-- The marks on a row: what held finds again. -/
def Marks (P : Nat → Nat → World → Value → Int → Int → Prop) (lo hi : Nat) (v : Value) (k : Int) (w : World) (e : Ending) (w' : World) : Prop :=
  ∃ r : Int, e = .returned (.int .i64 r) ∧ 0 ≤ r ∧ r ≤ k + 1099511627776 ∧ P lo hi w' v k r ∧ Out lo hi w w'
/-- A size is answered: -1, or what is left, and then the bound holds. -/
def SzL (bound : Prop) (n : Int) (w : World) (e : Ending) (w' : World) : Prop :=
  ∃ r : Int, e = .returned (.int .i64 r) ∧ Below w.heap.size w w' ∧ (r = -1 ∨ (0 ≤ r ∧ r ≤ n ∧ bound))
theorem alloc_size (w : World) (o : Obj) : (w.alloc o).heap.size = w.heap.size + 1 := by simp
theorem alloc_cell {w w' : World} {cs : Array Value} {T : TypeId} {v : Value} (h : Below (w.alloc (.cells cs T)).heap.size (w.alloc (.cells cs T)) w') {j : Nat} (e : cs[j]? = some v) : w'.cell? ⟨w.heap.size, j, none⟩ = some v :=
  cell_later h (by simp [go_sem, e])
theorem alloc_frozen {w w' : World} {cs : Array Value} {T : TypeId} {v : Value} (h : Below (w.alloc (.cells cs T)).heap.size (w.alloc (.cells cs T)) w') {j : Nat} (_ : cs[j]? = some v) : w'.frozen? ⟨w.heap.size, j, none⟩ = false :=
  (h.frozen (p := ⟨w.heap.size, j, none⟩) (by simp)).trans (by simp [go_sem])
theorem frozen_later {w w' : World} {p : Addr} {v : Value} (h : Below w.heap.size w w') (hc : w.cell? p = some v) (hf : w.frozen? p = false) : w'.frozen? p = false :=
  (h.frozen (World.block_lt_of_cell? _ _ hc)).trans hf
theorem below_alloc1 (w : World) (o : Obj) : Below w.heap.size w (w.alloc o) := (Below.refl _ _).alloc (Nat.le_refl _) o
theorem below_of_alloc {w w' : World} {o : Obj} (h : Below (w.alloc o).heap.size (w.alloc o) w') : Below w.heap.size w w' := below_step h (below_alloc1 w o)
theorem cell_keep {B : Nat} {w w' : World} {b o : Nat} {v : Value} (hc : w.cell? ⟨b, o, none⟩ = some v) (h : Below B w w') (hB : b < B) : w'.cell? ⟨b, o, none⟩ = some v := (h.cell (p := ⟨b, o, none⟩) hB).trans hc
theorem Out.of_belowB {B : Nat} {w w' : World} (h : Below B w w') : Out B w.heap.size w w' := ⟨h.os, h.tape, h.output, h.size, fun k hk ho => h.block k (by omega)⟩
theorem below_of_drew {w w' : World} (h : Below w.drew.heap.size w.drew w') : Below w.heap.size w w' := ⟨h.os, h.tape, h.output, h.size, h.block⟩
theorem row_slice {lo hi : Nat} {E : TypeId} {size n : Nat} {xs : List Value} {w : World} {v : Value} (h : Row lo hi E size n xs w v) : ∃ A c, v = .slice A n c := by
  rcases h.1.2 with ⟨rfl, rfl⟩ | ⟨g, cap, cur, rfl, _⟩
  · exact ⟨none, 0, rfl⟩
  · exact ⟨_, _, rfl⟩
theorem Out.refl (lo hi : Nat) (w : World) : Out lo hi w w := ⟨rfl, rfl, rfl, Nat.le_refl _, fun _ _ _ => rfl⟩
theorem Out.setCell {lo hi : Nat} {a w : World} (h : Out lo hi a w) {b o : Nat} (h1 : lo ≤ b) (h2 : b < hi) (u : Value) : Out lo hi a (w.setCell ⟨b, o, none⟩ u) :=
  h.trans (Out.of_grown (grownBy_setCell w b o u) fun g hg => by cases hg; exact ⟨h1, h2⟩)
theorem Out.drew {lo hi : Nat} {a w : World} (h : Out lo hi a w) : Out lo hi a w.drew := ⟨h.os, h.tape, h.output, h.size, h.block⟩
theorem Row.wide {lo hi lo' hi' : Nat} {E : TypeId} {size n : Nat} {xs : List Value} {w : World} {v : Value} (h : Row lo hi E size n xs w v) (h1 : lo' ≤ lo) (h2 : hi ≤ hi') : Row lo' hi' E size n xs w v :=
  ⟨own_base h.1 h1, fun k hk => Nat.lt_of_lt_of_le (h.2 k hk) h2⟩
theorem putCells_size (g : Nat) (us : List Value) : ∀ (w : World) (o : Nat), (putCells w g o us).heap.size = w.heap.size := by
  induction us with
  | nil => intro w o; rfl
  | cons u us ih => intro w o; rw [putCells, ih]; simp
end Go.Proofs.YtkfmdkogifmfmaaDoor
