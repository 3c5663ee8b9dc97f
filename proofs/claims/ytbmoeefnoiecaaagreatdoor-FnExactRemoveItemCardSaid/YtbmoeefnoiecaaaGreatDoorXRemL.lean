/- RemoveItem in the words of Own, spec and impl. No condition but those of the arguments. -/
import Derived.Test.YtbmoeefnoiecaaaGreatDoorGrg
import Derived.Test.YtbmoeefnoiecaaaGreatDoorGrh
import Derived.Test.YtbmoeefnoiecaaaGreatDoorGv
import Derived.Test.YtbmoeefnoiecaaaGreatDoorGn
namespace Go.Proofs.YtbmoeefnoiecaaaGreatDoor
set_option linter.unusedSimpArgs false
set_option linter.unusedVariables false
open Go.RowKit
theorem remV_bound {D : List RuleD} {X FX : Val} {at_ : Int} {ok : Bool} {S : List ByteArray} {b : Bool} (h : editV D X ok S (remC D at_) = (FX, b)) : FX.size ≤ X.size + X.size :=
 editV_size (N := X.size) (fun k y p hw hc => by
  have h1 := walkV_sz hw
  unfold remC at hc
  split at hc
  ·cases hc; have := remV_size at_.toNat y; omega
  ·cases hc) h
theorem specRem_law {w : World} {v u : Value} {D : List RuleD} {X FX : Val} {at_ : Int} {b : Bool} {lo hi lo' hi' : Nat} {s : ByteArray} (h : OwD D lo hi w v) (hk : okD D) (hv : OwV X lo' hi' w u) (hx : X.size ≤ 1048576) (hs : s.size ≤ 1048576) (ha : -9223372036854775808 ≤ at_ ∧ at_ ≤ 9223372036854775807) (hF : editV D X (spOk isStep s) (spL isStep s) (remC D at_) = (FX, b)) :
  Calls Tryz.prog 22 #[.agg #[v], u, .string s, .int .i64 at_] w (Made2 (OwV FX) (.bool b) w) := by
 obtain ⟨l, rfl, r⟩ := h.sl
 obtain ⟨x, rfl, rfl, rx⟩ := hv.rd
 have := specRem_any v l x s at_ _ w r (Nat.le_refl _) hk.l.1 hk.l.2 rx (by omega) ha (by omega)
 rw [hF] at this
 exact this
theorem implRem_law {w0 w : World} {v u : Value} {D : List RuleD} {X FX : Val} {at_ : Int} {b : Bool} {lo hi lo' hi' : Nat} {s : ByteArray} (h : OwD D lo hi w v) (hk : okD D) (hv : OwV X lo' hi' w u) (hx : X.size ≤ 1048576) (hs : s.size ≤ 1048576) (ha : -9223372036854775808 ≤ at_ ∧ at_ ≤ 9223372036854775807) (hF : editV D X (spOk isStep s) (spL isStep s) (remC D at_) = (FX, b)) (ht : Tab w0) (hb : Below w0.heap.size w0 w) :
  Calls Tryz.prog 23 #[.agg #[v], u, .string s, .int .i64 at_] w (Made2 (OwV FX) (.bool b) w) := by
 obtain ⟨l, rfl, r⟩ := h.sl
 obtain ⟨x, rfl, rfl, rx⟩ := hv.rd
 have := implRem_any v l x s at_ _ w r (Nat.le_refl _) hk.l.1 hk.l.2 rx (by omega) ha (by omega) (tab_on ht hb)
 rw [hF] at this
 exact this
end Go.Proofs.YtbmoeefnoiecaaaGreatDoor
