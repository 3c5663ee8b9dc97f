/- The laws' helpers on []byte in the words of Own. Conditions: the lists are at most 2^22 long. -/
import Derived.Test.YtkfmdkogifmfmaaDoorOwn
namespace Go.Proofs.YtkfmdkogifmfmaaDoor
set_option linter.unusedSimpArgs false
set_option linter.unusedVariables false
open Go.RowKit
def OwB (l : List UInt8) (lo hi : Nat) (w : World) (v : Value) : Prop := Row lo hi 5 1 l.length (u8s l) w v
theorem OwB.keep {l : List UInt8} {lo hi lo' hi' : Nat} {w w' : World} {v : Value} (h : OwB l lo hi w v) (ho : Out lo' hi' w w') (hd : hi ≤ lo' ∨ hi' ≤ lo) : OwB l lo hi w' v := Row.keep h ho hd
theorem OwB.sl {l : List UInt8} {lo hi : Nat} {w : World} {v : Value} (h : OwB l lo hi w v) : SlB w w.heap.size v l := Row.sl h
theorem SlB.len {w : World} {B : Nat} {v : Value} {l : List UInt8} (h : SlB w B v l) : l.length ≤ 9223372036854775807 := by
  obtain ⟨A, c, _, hc, hm, _⟩ := h.open_
  unfold maxLen at hm; omega
theorem made_bytes {P : Program} {f : FuncId} {args : Array Value} {w : World} {l : List UInt8} (h : Calls P f args w (Fresh w 5 1 l.length (u8s l))) : Calls P f args w (Made (OwB l) w) := made_of_fresh h
theorem toB_law {w0 w : World} {v : Value} {l : List UInt8} (h : SlB w0 w0.heap.size v l) (b : Below w0.heap.size w0 w) (hl : l.length ≤ 1048576) :
    Calls Tryd.prog 33 #[v] w (Made (OwB l) w) := made_bytes (toByteS_any v l _ w (h.below b) b.size (by omega))
theorem eqB_law {w : World} {v u : Value} {l : List UInt8} {lo hi lo' hi' : Nat} (h : OwB l lo hi w v) (h' : OwB l lo' hi' w u) :
    Calls Tryd.prog 38 #[v, u] w (True1 w) := by
  refine (eqByteS_any v u l l _ _ w h.sl h'.sl).mono fun e w' hq => ?_
  have := hq.below
  rw [beq_self_eq_true] at this
  exact this
def MkB (n : Nat) (lo hi : Nat) (w : World) (v : Value) (k r : Int) : Prop := ∃ j : Nat, k = j ∧ r = k + n ∧ n ≤ 4194304 ∧ j ≤ 1125899906842624 ∧ Row lo hi 5 1 n (u8s (marks j n)) w v
theorem MkB.keep {n : Nat} {lo hi lo' hi' : Nat} {w w' : World} {v : Value} {k r : Int} (h : MkB n lo hi w v k r) (ho : Out lo' hi' w w') (hd : hi ≤ lo' ∨ hi' ≤ lo) : MkB n lo hi w' v k r := by
  obtain ⟨j, h1, h2, h3, h4, h6⟩ := h
  exact ⟨j, h1, h2, h3, h4, h6.keep ho hd⟩
end Go.Proofs.YtkfmdkogifmfmaaDoor
