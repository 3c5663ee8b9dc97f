/- FormatInt and FormatMutation, spec and impl. Conditions: the integers fit an int; for impl: the table of powers of ten reads as laid. -/
import Derived.Test.YtkfmdkogifmfmaaDoorLiftD
import Derived.Test.YtkfmdkogifmfmaaDoorInts
import Derived.Test.YtkfmdkogifmfmaaDoorShelf
import Derived.Test.YtkfmdkogifmfmaaDoorOpen
import Derived.WalkSpells
import Derived.WalkLawsBesides
import Derived.Deep.RegionHeld3
import Derived.Sort.AtCall
namespace Go.Proofs.YtkfmdkogifmfmaaDoor
set_option linter.unusedSimpArgs false
set_option linter.unusedVariables false
open Go.RowKit
theorem digs_dec (n : Nat) (h : 1 ≤ n) : digs n = Lib.decDigits n := by
  induction n using Nat.strongRecOn with
  | _ n ih =>
    rw [digs_pos (by omega), Lib.decDigits]
    by_cases h10 : n < 10
    · rw [dif_pos h10, show n / 10 = 0 by omega, digs_zero, show n % 10 = n by omega]
      rfl
    · rw [dif_neg h10, ih (n / 10) (by omega) (by omega)]
theorem fmt_itoa (n : Int) : fmtI n = Lib.itoa n := by
  unfold fmtI Lib.itoa
  by_cases hz : n = 0
  · subst hz
    rw [if_pos rfl, if_neg (by omega), Lib.decDigits]
    rfl
  · rw [if_neg hz]
    by_cases hn : n < 0
    · rw [if_pos hn, if_pos hn, digs_dec _ (by omega)]
    · rw [if_neg hn, if_neg hn, digs_dec _ (by omega)]
      congr 1
      omega
theorem fmtI_size (n : Int) (hn : InI64 n) : (str (fmtI n)).size ≤ 20 := by
  have h := digs_length n.natAbs 19 (by have := hn.1; have := hn.2; omega)
  rw [str_size]
  unfold fmtI
  split
  · simp
  · split
    · simp; omega
    · omega
theorem implFormatInt_any (n : Int) (w : World) (hn : InI64 n) (ht : Tab w) :
    Calls Tryd.prog 30 #[.int .i64 n] w fun e w' => e = .returned (.string (str (fmtI n))) ∧ Below w.heap.size w w' := by
  go_enter Tryd.func30, Tryd.ntmps30
  go_wp2_with fail
  refine (Tryd.strconv_Itoa n hn.1 hn.2 w ht.here).mono ?_
  rintro e w1 ⟨rfl, k, os, rfl⟩
  have H := Lib.hid (Lib.below_grow w.heap.size w (Nat.le_refl _) k os)
  go_wp2
  go_ret
  exact ⟨ret_str (by rw [fmt_itoa]; rfl), H.out⟩
def mutText (k : Int) (A B : ByteArray) : ByteArray :=
  if k = 1 then ⟨#[61]⟩ ++ A ++ ⟨#[58]⟩ ++ B else if k = 2 then ⟨#[43]⟩ ++ A ++ ⟨#[58]⟩ ++ B else if k = 3 then ⟨#[45]⟩ ++ A else ⟨#[63]⟩ ++ A ++ ⟨#[58]⟩ ++ B
end Go.Proofs.YtkfmdkogifmfmaaDoor
