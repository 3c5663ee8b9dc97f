/- The laws' helpers on []Entry in the words of Own. Conditions: the lists are at most 2^20 long. -/
import Derived.Test.YtnbemdcdokhknaaOwn
import Derived.Test.YtnbemdcdokhknaaEntMark
import Derived.Test.YtnbemdcdokhknaaOpenEntry
namespace Go.Proofs.Ytnbemdcdokhknaa
set_option linter.unusedSimpArgs false
set_option linter.unusedVariables false
open Go.RowKit
def OwE (l : List Ent) (lo hi : Nat) (w : World) (v : Value) : Prop := Row lo hi 47 4 l.length (entsCells l) w v
theorem OwE.keep {l : List Ent} {lo hi lo' hi' : Nat} {w w' : World} {v : Value} (h : OwE l lo hi w v) (ho : Out lo' hi' w w') (hd : hi ≤ lo' ∨ hi' ≤ lo) : OwE l lo hi w' v := Row.keep h ho hd
theorem OwE.sl {l : List Ent} {lo hi : Nat} {w : World} {v : Value} (h : OwE l lo hi w v) : SlE w w.heap.size v l := Row.sl h
theorem toE_law {w0 w : World} {v : Value} {l : List Ent} (h : SlE w0 w0.heap.size v l) (b : Below w0.heap.size w0 w) (hl : l.length ≤ 1048576) :
    Calls Try.prog 12 #[v] w (Made (OwE l) w) := made_of_fresh (toEntryS_any v l _ w (h.below b) b.size hl)
theorem eqE_law {w : World} {v u : Value} {l : List Ent} {lo hi lo' hi' : Nat} (h : OwE l lo hi w v) (h' : OwE l lo' hi' w u) :
    Calls Try.prog 14 #[v, u] w (True1 w) := eqEntryS_any v u l l _ _ w h.sl h'.sl (Nat.le_refl _) (Nat.le_refl _) rfl
def MkE (n : Nat) (lo hi : Nat) (w : World) (v : Value) (k r : Int) : Prop := ∃ j : Nat, 1 ≤ j ∧ k = j ∧ r = k + 4 * n ∧ n ≤ 4194304 ∧ j ≤ 1125899906842624 ∧ Row lo hi 47 4 n (entsCells (entMarks j n)) w v
theorem MkE.keep {n : Nat} {lo hi lo' hi' : Nat} {w w' : World} {v : Value} {k r : Int} (h : MkE n lo hi w v k r) (ho : Out lo' hi' w w') (hd : hi ≤ lo' ∨ hi' ≤ lo) : MkE n lo hi w' v k r := by
  obtain ⟨j, h1, h2, h3, h4, h5, h6⟩ := h
  exact ⟨j, h1, h2, h3, h4, h5, h6.keep ho hd⟩
theorem markE_law {w : World} {v : Value} {l : List Ent} {lo hi : Nat} (h : OwE l lo hi w v) (k : Int) (h1 : 1 ≤ k) (h2 : k ≤ 1125899906842624) (hl : l.length ≤ 4194304) :
    Calls Try.prog 17 #[v, .int .i64 k] w (Marks (MkE l.length) lo hi v k w) := by
  obtain ⟨j, rfl⟩ := Int.eq_ofNat_of_zero_le (show 0 ≤ k by omega)
  refine (markEntryS_any v l.length (entsCells l) j lo w h.1 (by omega) (by omega)).mono ?_
  rintro e w' ⟨rfl, ho, hg⟩
  exact ⟨_, rfl, by omega, by omega, ⟨j, by omega, rfl, rfl, hl, by omega, ho, h.2⟩, Out.of_grown hg fun g hk => ⟨(ho.lt g hk).1, h.2 g hk⟩⟩
theorem heldE_law {w : World} {v : Value} {n lo hi : Nat} {k r : Int} (h : MkE n lo hi w v k r) :
    Calls Try.prog 18 #[v, .int .i64 k] w fun e w' => e = .returned (.int .i64 r) ∧ Below w.heap.size w w' := by
  obtain ⟨j, h1, rfl, rfl, h4, h5, h6⟩ := h
  refine heldEntryS_any v n j _ w ?_ (Nat.le_refl _) h1 (by omega)
  have := h6.sl
  unfold SlE
  rw [entMarks_length]
  exact this
theorem szE_law {w0 w : World} {v : Value} {l : List Ent} (h : SlE w0 w0.heap.size v l) (b : Below w0.heap.size w0 w) (ok : ∀ e ∈ l, e.ok) (n : Int) (h0 : 0 ≤ n) (h1 : n ≤ 1048576) :
    Calls Try.prog 9 #[v, .int .i64 n] w (SzL (l.length ≤ 1048576 ∧ ∀ e ∈ l, e.path.size ≤ 1048576) n w) := by
  refine (szEntryS_any v l _ n w (h.below b) b.size (fun e he => (ok e he).1) h0 h1).mono ?_
  rintro e w' ⟨r, he, hb, hr⟩
  exact ⟨r, he, hb, hr.imp id fun h => ⟨h.1, h.2.1, by omega, fun e he => by have := h.2.2.2 e he; omega⟩⟩
end Go.Proofs.Ytnbemdcdokhknaa
