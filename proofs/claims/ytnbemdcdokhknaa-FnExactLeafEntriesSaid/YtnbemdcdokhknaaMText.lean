/- The text of a mark: markText. Condition: the number fits an int. -/
import Derived.Test.YtnbemdcdokhknaaRows
import Derived.Test.YtnbemdcdokhknaaInts
import Derived.WalkSpells
import Derived.WalkLawsBesides
import Derived.BigQuiet
import Derived.Deep.QuietTactic
import Derived.Deep.RegionHeld3
namespace Go.Proofs.Ytnbemdcdokhknaa
set_option linter.unusedSimpArgs false
set_option linter.unusedVariables false
open Go.RowKit
/-- The text of a mark. -/
def mtext (k : Nat) : ByteArray := str (109 :: digs k)

set_option maxHeartbeats 1000000 in
set_option maxRecDepth 100000 in
theorem markText_any (k : Nat) (w : World) (hk : 1 ≤ k) (hk2 : k ≤ 4611686018427387904) :
    Calls Try.prog 38 #[.int .i64 k] w fun e w' => e = .returned (.string (mtext k)) ∧ Below w.heap.size w w' := by
  have hlen := digs_length k 19 (by omega)
  go_enter Try.func38, Try.ntmps38
  go_wp2
  go_loopw [0, 3] (fun i s wr => ∃ (x : Nat) (S : List UInt8), i = .int .i64 x ∧ s = .string (str S) ∧ x ≤ k ∧ digs k = digs x ++ S ∧ Below w.heap.size w wr) (fun i _ _ => (intOf i).natAbs)
  case atStart => exact ⟨k, [], rfl, rfl, Nat.le_refl _, by simp, Below.refl _ _⟩
  case round =>
    obtain ⟨x, S, rfl, rfl, hx1, hd, hb⟩ := hrel
    have HD := Lib.hid hd
    have hSl : (str S).size ≤ 19 := by
      have := congrArg List.length hd
      rw [List.length_append] at this
      rw [str_size]; omega
    clear hd
    by_cases hx : x = 0
    · subst hx
      have HE := Lib.hid (HD.out.trans (by rw [digs_zero, List.nil_append]))
      have hz : decide ((0 : Int) < ((0 : Nat) : Int)) = false := rfl
      clear HD
      go_wp2
      go_ret
      exact ⟨ret_str (by unfold mtext; rw [HE.out]; rfl), hb⟩
    · have hpos : (0 : Int) < x := by omega
      have HN := Lib.hid (HD.out.trans (digs_cons x hx S))
      have hcv := conv_one wr (48 + (x : Int) % 10) (x % 10) (by omega) (by omega)
      have hsz := dch_size (x % 10)
      have hsz1 : (str [dch (x % 10)]).size ≤ 1 := by omega
      clear hsz hx
      have HB := Lib.hid (hb.alloc hb.size (.cells #[.int .u8 (48 + (x : Int) % 10)] 5))
      go_wp2
      go_roundw
      case rel => exact ⟨x / 10, dch (x % 10) :: S, by go_num, by rw [str_cons], by omega, HN.out, HB.out⟩
      case measure => simp [intOf]; omega

theorem markText_at (z : Int) (k : Nat) (hz : z = k) (w : World) (hk : 1 ≤ k) (hk2 : k ≤ 4611686018427387904) :
    Calls Try.prog 38 #[.int .i64 z] w fun e w' => e = .returned (.string (mtext k)) ∧ Below w.heap.size w w' := by
  subst hz; exact markText_any k w hk hk2
end Go.Proofs.Ytnbemdcdokhknaa
