/- impl.SplitPath. Condition: the text has at most 2^21 bytes. -/
import Derived.Test.YtglminmoglncpaaRfPath
import Derived.Test.YtglminmoglncpaaOwnS
namespace Go.Proofs.Ytglminmoglncpaa
open Go.RowKit
set_option maxHeartbeats 400000 in
theorem implSplitPath_any (s : ByteArray) (w : World) (hs : s.size ≤ 2097152) :
    Calls Try.prog 9 #[.string s] w (OwB (spL isStep s) (spOk isStep s) w) := by
  go_enter Try.func9, Try.ntmps9
  go_wp2_with fail
  refine (splitWithP_any s w hs).mono ?_
  rintro e w1 ⟨v, rfl, hown, hb⟩
  have H := Lib.hid (And.intro hown hb)
  clear hown hb
  go_wp2
  go_ret2
  exact ⟨_, rfl, H.out.1, H.out.2⟩
theorem OwB.law {l : List ByteArray} {b : Bool} {w w' : World} {e : Ending} (h : OwB l b w e w') : ∃ v, e = .returned (.tuple #[v, .bool b]) ∧ OwS l w.heap.size w'.heap.size w' v ∧ Below w.heap.size w w' := by
  obtain ⟨v, he, hown, hb⟩ := h
  exact ⟨v, he, ⟨hown, fun g hk => (hown.lt g hk).2⟩, hb⟩
theorem implSplitPath_law (s : ByteArray) (w : World) (hs : s.size ≤ 2097152) :
    Calls Try.prog 9 #[.string s] w fun e w' => ∃ v, e = .returned (.tuple #[v, .bool (spOk isStep s)]) ∧ OwS (spL isStep s) w.heap.size w'.heap.size w' v ∧ Below w.heap.size w w' :=
  (implSplitPath_any s w hs).mono fun _ _ h => h.law
theorem spL_len (isS : ByteArray → Bool) (s : ByteArray) : (spL isS s).length ≤ s.size := by
  unfold spL
  split
  · have := (splitT_length s 47).1
    rw [tailT, List.length_tail]; omega
  · simp
end Go.Proofs.Ytglminmoglncpaa
