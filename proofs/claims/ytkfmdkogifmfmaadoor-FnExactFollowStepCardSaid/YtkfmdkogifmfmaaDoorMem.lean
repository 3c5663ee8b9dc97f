/- Program-free words for memory: a slice that reads as a list of cells; bytes; small lemmas. No condition. -/
import Derived.WalkKit
import Derived.Below
import Derived.Laws.OwnMore
import Derived.Deep.Draws
import Derived.Lib.Hide
import Derived.Lib.Strings
import Derived.Maps.AppendAt
import Derived.Deep.AppendLies
namespace Go.Proofs.YtkfmdkogifmfmaaDoor
set_option linter.unusedSimpArgs false
set_option linter.unusedVariables false
open Go.RowKit

theorem ret_int {k : IntKind} {a b : Int} (h : a = b) : Ending.returned (.int k a) = .returned (.int k b) := by rw [h]
theorem ret_bool {a b : Bool} (h : a = b) : Ending.returned (.bool a) = .returned (.bool b) := by rw [h]

theorem ret_str {a b : ByteArray} (h : a = b) : Ending.returned (.string a) = .returned (.string b) := by rw [h]

theorem below_drewN {B : Nat} {a w : World} (h : Below B a w) (n : Nat) : Below B a (w.drewN n) := ⟨h.os, h.tape, h.output, h.size, h.block⟩
theorem below_grown {a w : World} {row : Option Nat} (h : a.grownBy w row) {B : Nat} (hB : B ≤ a.heap.size) (hr : ∀ k, row = some k → B ≤ k) : Below B a w :=
  (Below.refl B a).grown h hB hr

theorem below_step {w a b : World} (h1 : Below a.heap.size a b) (h : Below w.heap.size w a) : Below w.heap.size w b := h.trans (h1.mono h.size)

theorem calls_below {P : Program} {f : FuncId} {args : Array Value} {w : World} {r : Ending} (h : Calls P f args w fun e w' => e = r ∧ w = w') : Calls P f args w fun e w' => e = r ∧ Below w.heap.size w w' :=
  h.mono fun _ _ hh => ⟨hh.1, by rw [← hh.2]; exact Below.refl _ _⟩

/-- The slice value v, of n elements of 'size' cells each, reads as the cells xs; they lie below block B. -/
def Sl (w : World) (B size : Nat) (v : Value) (n : Nat) (xs : List Value) : Prop :=
  xs.length = n * size ∧ ∃ A c, v = .slice A n c ∧ n ≤ c ∧ c ≤ maxLen ∧
    (0 < n → ∃ b off, A = some ⟨b, off, none⟩ ∧ b < B ∧ ∀ j u, xs[j]? = some u → w.cell? ⟨b, off + j, none⟩ = some u)

section
variable {w w' : World} {B B' size n : Nat} {v : Value} {xs : List Value}
theorem Sl.keep (h : Sl w B size v n xs) (hk : ∀ b o, b < B → w'.cell? ⟨b, o, none⟩ = w.cell? ⟨b, o, none⟩) : Sl w' B size v n xs := by
  obtain ⟨hl, A, c, hv, hc, hm, hr⟩ := h
  refine ⟨hl, A, c, hv, hc, hm, fun hn => ?_⟩
  obtain ⟨b, off, e, hb, hcell⟩ := hr hn
  exact ⟨b, off, e, hb, fun j u hu => (hk _ _ hb).trans (hcell j u hu)⟩
theorem Sl.more (h : Sl w B size v n xs) (hB : B ≤ B') : Sl w B' size v n xs := by
  obtain ⟨hl, A, c, hv, hc, hm, hr⟩ := h
  refine ⟨hl, A, c, hv, hc, hm, fun hn => ?_⟩
  obtain ⟨b, off, e, hb, hcell⟩ := hr hn
  exact ⟨b, off, e, by omega, hcell⟩
theorem Sl.below (h : Sl w B size v n xs) (hb : Below B w w') : Sl w' B size v n xs := h.keep fun _ _ hp => hb.cell (p := ⟨_, _, none⟩) hp
theorem Sl.drewN (h : Sl w B size v n xs) (k : Nat) : Sl (w.drewN k) B size v n xs := h
theorem Sl.grown (h : Sl w B size v n xs) {row : Option Nat} (hg : w.grownBy w' row) (hB : B ≤ w.heap.size) (hr : ∀ g, row = some g → B ≤ g) : Sl w' B size v n xs :=
  h.below (below_grown hg hB hr)
theorem Sl.of_own {base : Nat} {e : TypeId} (h : w.ownsRow base e size v n xs) : Sl w w.heap.size size v n xs := by
  refine ⟨h.1, ?_⟩
  rcases h.2 with ⟨rfl, rfl⟩ | ⟨g, cap, cur, rfl, hb, hg, hc, hm, hs, ht⟩
  · exact ⟨none, 0, rfl, Nat.le_refl _, Nat.zero_le _, fun h => absurd h (by omega)⟩
  · refine ⟨_, _, rfl, hc, hm, fun _ => ⟨g, 0, rfl, (Array.getElem?_eq_some_iff.1 hg).1, fun j u hu => ?_⟩⟩
    have := h.cells (g := g) rfl j u hu
    have hadd : (⟨g, 0, none⟩ : Addr).add j = ⟨g, j, none⟩ := by unfold Addr.add; split <;> simp_all
    rw [hadd] at this
    simpa using this
theorem Sl.nil (w : World) (B size : Nat) : Sl w B size (.slice none 0 0) 0 [] :=
  ⟨by simp, none, 0, rfl, Nat.le_refl _, Nat.zero_le _, fun h => absurd h (by omega)⟩
end

/-- An owned row is kept while below its heap nothing turns. -/
theorem own_below {w w' : World} {base : Nat} {e : TypeId} {size : Nat} {v : Value} {n : Nat} {xs : List Value} (h : w.ownsRow base e size v n xs) {B : Nat} (hb : Below B w w') (hB : w.heap.size ≤ B) : w'.ownsRow base e size v n xs := by
  refine ⟨h.1, ?_⟩
  rcases h.2 with hn | ⟨g, cap, cur, rfl, hbb, hg, rest⟩
  · exact .inl hn
  · exact .inr ⟨g, cap, cur, rfl, hbb, by rw [hb.block g (by have := (Array.getElem?_eq_some_iff.1 hg).1; omega)]; exact hg, rest⟩
theorem own_base {w : World} {base base' : Nat} {e : TypeId} {size : Nat} {v : Value} {n : Nat} {xs : List Value} (h : w.ownsRow base e size v n xs) (hb : base' ≤ base) : w.ownsRow base' e size v n xs := by
  refine ⟨h.1, ?_⟩
  rcases h.2 with hn | ⟨g, cap, cur, rfl, hbb, rest⟩
  · exact .inl hn
  · exact .inr ⟨g, cap, cur, rfl, by omega, rest⟩

/-! ### several cells written into an owned row -/
def putCells (w : World) (g o : Nat) : List Value → World
  | [] => w
  | u :: us => putCells (w.setCell ⟨g, o, none⟩ u) g (o + 1) us
theorem own_putCells {base : Nat} {e : TypeId} {size n cap g : Nat} (us : List Value) : ∀ (w : World) (pre ys : List Value), us.length ≤ ys.length →
    w.ownsRow base e size (.slice (some ⟨g, 0, none⟩) n cap) n (pre ++ ys) →
    (putCells w g pre.length us).ownsRow base e size (.slice (some ⟨g, 0, none⟩) n cap) n (pre ++ us ++ ys.drop us.length) := by
  induction us with
  | nil => intro w pre ys _ h; simpa [putCells] using h
  | cons u us ih =>
    intro w pre ys hl h
    cases ys with
    | nil => simp at hl
    | cons y ys =>
      have h1 := (h.stored pre.length u).1
      have e1 : (pre ++ y :: ys).set pre.length u = (pre ++ [u]) ++ ys := by
        rw [List.set_append_right _ _ (Nat.le_refl _)]; simp
      rw [e1] at h1
      have h2 := ih _ (pre ++ [u]) ys (by simpa using hl) h1
      simpa [putCells] using h2
theorem below_putCells {B : Nat} {a : World} {g : Nat} (us : List Value) : ∀ (w : World) (o : Nat), Below B a w → B ≤ g → Below B a (putCells w g o us) := by
  induction us with
  | nil => intro w o h _; exact h
  | cons u us ih => intro w o h hg; exact ih _ _ (h.setCell (p := ⟨g, o, none⟩) hg u) hg
theorem grownBy_setCell (w : World) (g o : Nat) (u : Value) : w.grownBy (w.setCell ⟨g, o, none⟩ u) (some g) :=
  ⟨rfl, rfl, rfl, by simp [World.setCell], fun k _ hne => Below.heap_setCell _ _ _ _ (fun e => hne (by rw [e]))⟩
theorem grownBy_trans {a b c : World} {row : Option Nat} (h : a.grownBy b row) (k : b.grownBy c row) : a.grownBy c row :=
  ⟨k.os.trans h.os, k.tape.trans h.tape, k.output.trans h.output, Nat.le_trans h.size k.size, fun i hi hne => (k.block i (Nat.lt_of_lt_of_le hi h.size) hne).trans (h.block i hi hne)⟩
theorem grownBy_putCells {g : Nat} (us : List Value) : ∀ (w : World) (o : Nat), w.grownBy (putCells w g o us) (some g) := by
  induction us with
  | nil => intro w o; exact World.grownBy.refl _ _
  | cons u us ih => intro w o; exact grownBy_trans (grownBy_setCell w g o u) (ih _ _)

/-! ### bytes -/
def u8v (b : UInt8) : Value := .int .u8 (b.toNat : Int)
def u8s (l : List UInt8) : List Value := l.map u8v
@[simp] theorem u8s_length (l : List UInt8) : (u8s l).length = l.length := by simp [u8s]
theorem u8s_append (a b : List UInt8) : u8s (a ++ b) = u8s a ++ u8s b := by simp [u8s]
theorem u8s_getElem? (l : List UInt8) (k : Nat) : (u8s l)[k]? = l[k]?.map u8v := by simp [u8s]
theorem u8s_one (l : List UInt8) : ∀ u ∈ u8s l, u.oneCell' = true := by
  intro u hu
  simp only [u8s, List.mem_map] at hu
  obtain ⟨b, _, rfl⟩ := hu
  rfl
/-- The slice of bytes v reads as l. -/
def SlB (w : World) (B : Nat) (v : Value) (l : List UInt8) : Prop := Sl w B 1 v l.length (u8s l)
theorem SlB.below {w w' : World} {B : Nat} {v : Value} {l : List UInt8} (h : SlB w B v l) (hb : Below B w w') : SlB w' B v l := Sl.below h hb
theorem SlB.more {w : World} {B B' : Nat} {v : Value} {l : List UInt8} (h : SlB w B v l) (hB : B ≤ B') : SlB w B' v l := Sl.more h hB
theorem SlB.open_ {w : World} {B : Nat} {v : Value} {l : List UInt8} (h : SlB w B v l) : ∃ A c, v = .slice A l.length c ∧ l.length ≤ c ∧ c ≤ maxLen ∧
    (∀ k (hk : k < l.length), ∃ b off, A = some ⟨b, off, none⟩ ∧ b < B ∧ w.cell? ⟨b, off + k, none⟩ = some (.int .u8 (l[k].toNat : Int))) := by
  obtain ⟨_, A, c, rfl, hc, hm, hr⟩ := h
  refine ⟨A, c, rfl, hc, hm, fun k hk => ?_⟩
  obtain ⟨b, off, e, hb, hcell⟩ := hr (by omega)
  exact ⟨b, off, e, hb, hcell k _ (by rw [u8s_getElem?, List.getElem?_eq_getElem hk]; rfl)⟩

/-! ### strings and ints -/
/-- The slice of strings v reads as l. -/
def SlS (w : World) (B : Nat) (v : Value) (l : List ByteArray) : Prop := Sl w B 1 v l.length (l.map .string)
/-- The slice of ints v reads as l. -/
def SlI (w : World) (B : Nat) (v : Value) (l : List Int) : Prop := Sl w B 1 v l.length (l.map (.int .i64))
theorem Sl.one {T : Type} {w : World} {B : Nat} {v : Value} {f : T → Value} {l : List T} (h : Sl w B 1 v l.length (l.map f)) : ∃ A c, v = .slice A l.length c ∧ l.length ≤ c ∧ c ≤ maxLen ∧
    (∀ k (hk : k < l.length), ∃ b off, A = some ⟨b, off, none⟩ ∧ b < B ∧ w.cell? ⟨b, off + k, none⟩ = some (f l[k])) := by
  obtain ⟨_, A, c, rfl, hc, hm, hr⟩ := h
  refine ⟨A, c, rfl, hc, hm, fun k hk => ?_⟩
  obtain ⟨b, off, e, hb, hcell⟩ := hr (by omega)
  exact ⟨b, off, e, hb, hcell k _ (by rw [List.getElem?_map, List.getElem?_eq_getElem hk]; rfl)⟩
theorem SlS.below {w w' : World} {B : Nat} {v : Value} {l : List ByteArray} (h : SlS w B v l) (hb : Below B w w') : SlS w' B v l := Sl.below h hb
theorem SlS.more {w : World} {B B' : Nat} {v : Value} {l : List ByteArray} (h : SlS w B v l) (hB : B ≤ B') : SlS w B' v l := Sl.more h hB
theorem SlI.below {w w' : World} {B : Nat} {v : Value} {l : List Int} (h : SlI w B v l) (hb : Below B w w') : SlI w' B v l := Sl.below h hb
theorem SlI.more {w : World} {B B' : Nat} {v : Value} {l : List Int} (h : SlI w B v l) (hB : B ≤ B') : SlI w B' v l := Sl.more h hB
end Go.Proofs.YtkfmdkogifmfmaaDoor
