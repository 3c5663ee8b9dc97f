/- The laws' helpers on []string in the words of Own. Conditions: the lists are at most 2^20 long. -/
import Derived.Test.YtglminmoglncpaaOwn
import Derived.Test.YtglminmoglncpaaStrs
namespace Go.Proofs.Ytglminmoglncpaa
open Go.RowKit
def OwS (l : List ByteArray) (lo hi : Nat) (w : World) (v : Value) : Prop := Row lo hi 9 1 l.length (l.map .string) w v
theorem OwS.keep {l : List ByteArray} {lo hi lo' hi' : Nat} {w w' : World} {v : Value} (h : OwS l lo hi w v) (ho : Out lo' hi' w w') (hd : hi ≤ lo' ∨ hi' ≤ lo) : OwS l lo hi w' v := Row.keep h ho hd
theorem OwS.sl {l : List ByteArray} {lo hi : Nat} {w : World} {v : Value} (h : OwS l lo hi w v) : SlS w w.heap.size v l := Row.sl h
theorem eqS_law {w : World} {v u : Value} {l : List ByteArray} {lo hi lo' hi' : Nat} (h : OwS l lo hi w v) (h' : OwS l lo' hi' w u) :
    Calls Try.prog 10 #[v, u] w (True1 w) := by
  refine (eqStringS_any v u l l _ _ w h.sl h'.sl).mono fun e w' hq => ?_
  have := hq.below
  rw [decide_eq_true rfl] at this
  exact this
end Go.Proofs.Ytglminmoglncpaa
