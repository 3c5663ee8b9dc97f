/- The laws' helpers on []string in the words of Own. Conditions: the lists are at most 2^20 long. -/
import Derived.Test.YtkfmdkogifmfmaaDoorOwn
import Derived.Test.YtkfmdkogifmfmaaDoorStrs
namespace Go.Proofs.YtkfmdkogifmfmaaDoor
set_option linter.unusedSimpArgs false
set_option linter.unusedVariables false
open Go.RowKit
def OwS (l : List ByteArray) (lo hi : Nat) (w : World) (v : Value) : Prop := Row lo hi 9 1 l.length (l.map .string) w v
theorem OwS.keep {l : List ByteArray} {lo hi lo' hi' : Nat} {w w' : World} {v : Value} (h : OwS l lo hi w v) (ho : Out lo' hi' w w') (hd : hi ≤ lo' ∨ hi' ≤ lo) : OwS l lo hi w' v := Row.keep h ho hd
theorem OwS.sl {l : List ByteArray} {lo hi : Nat} {w : World} {v : Value} (h : OwS l lo hi w v) : SlS w w.heap.size v l := Row.sl h
theorem toS_law {w0 w : World} {v : Value} {l : List ByteArray} (h : SlS w0 w0.heap.size v l) (b : Below w0.heap.size w0 w) (hl : l.length ≤ 1048576) :
    Calls Tryd.prog 51 #[v] w (Made (OwS l) w) := made_of_fresh (toStringS_any v l _ w (h.below b) b.size hl)
theorem eqS_law {w : World} {v u : Value} {l : List ByteArray} {lo hi lo' hi' : Nat} (h : OwS l lo hi w v) (h' : OwS l lo' hi' w u) :
    Calls Tryd.prog 54 #[v, u] w (True1 w) := by
  refine (eqStringS_any v u l l _ _ w h.sl h'.sl).mono fun e w' hq => ?_
  have := hq.below
  rw [decide_eq_true rfl] at this
  exact this
theorem szS_law {w0 w : World} {v : Value} {l : List ByteArray} (h : SlS w0 w0.heap.size v l) (b : Below w0.heap.size w0 w) (ok : ∀ s ∈ l, s.size ≤ maxLen) (n : Int) (h0 : 0 ≤ n) (h1 : n ≤ 1048576) :
    Calls Tryd.prog 49 #[v, .int .i64 n] w (SzL (l.length ≤ 1048576 ∧ total l ≤ 1048576) n w) := by
  refine (szStringS_any v l _ n w (h.below b) ok h0 h1).mono ?_
  rintro e w' ⟨r, he, rfl, hr⟩
  exact ⟨r, he, Below.refl _ _, hr.imp id fun h => ⟨h.1, by omega, by omega, by omega⟩⟩
end Go.Proofs.YtkfmdkogifmfmaaDoor
