/- The walks of spec.FormatInt, spec.ParseInt and impl.ParseInt. Every int, every string. -/
import Derived.Test.YtnbemdcdokhknaaNum
import Derived.Test.YtnbemdcdokhknaaDec
import Derived.WalkSpells
import Derived.WalkLawsBesides
import Derived.BigGuardPart
namespace Go.Proofs.Ytnbemdcdokhknaa
set_option linter.unusedSimpArgs false
set_option linter.unusedVariables false
open Go.RowKit

theorem val_int {k : IntKind} {a b : Int} (h : a = b) : Value.int k a = .int k b := by rw [h]

def str (l : List UInt8) : ByteArray := ⟨l.toArray⟩
theorem str_data (l : List UInt8) : (str l).data.toList = l := by simp [str]
theorem str_size (l : List UInt8) : (str l).size = l.length := by simp [str, ByteArray.size]

/-- The letter of a digit. -/
def dch (m : Nat) : UInt8 := UInt8.ofNat (48 + m)
theorem dch_size (m : Nat) : (str [dch m]).size = 1 := by rw [str_size]; rfl
theorem str_cons (c : UInt8) (S : List UInt8) : str [c] ++ str S = str (c :: S) := by
  unfold str; rw [ByteArray.mk_append_mk]; rfl

theorem digs_cons (m : Nat) (h : m ≠ 0) (S : List UInt8) : digs m ++ S = digs (m / 10) ++ (dch (m % 10) :: S) := by
  rw [digs_pos h]; simp [dch]

theorem conv_one (W : World) (z : Int) (d : Nat) (h : z = 48 + (d : Int)) (hd : d < 10) :
    (convert 48 9 (.slice (some ⟨W.heap.size, 0, none⟩) 1 1)).run Try.prog (W.alloc (.cells #[.int .u8 z] 5)) = .ok (.string (str [dch d])) (W.alloc (.cells #[.int .u8 z] 5)) := by
  subst h
  refine run_convert_bytes_back (P := Try.prog) _ 48 9 5 ⟨W.heap.size, 0, none⟩ 1 [UInt8.ofNat (48 + d)] Try.underlying48 Try.underlying5 Try.underlying9 ?_
  intro j hj
  obtain rfl : j = 0 := by simpa using hj
  have e : (([UInt8.ofNat (48 + d)][0]'hj).toNat : Int) = 48 + (d : Int) := by
    show ((UInt8.ofNat (48 + d)).toNat : Int) = _
    rw [digit_ofNat _ hd]; omega
  rw [e]
  simp [go_sem, Addr.add]

/-! ### ParseInt -/
def allDig (l : List UInt8) : Bool := l.all isDig
/-- The text is that of a number from 0 to 10^12. -/
def isNum (l : List UInt8) : Bool := decide (1 ≤ l.length) && (decide (l.length ≤ 13) && (allDig l && (!(l.head? == some 48 && decide (1 < l.length)) && decide (valD l ≤ 1000000000000))))
def numOf (l : List UInt8) : Int := if isNum l then (valD l : Int) else 0

theorem valD_take (s : ByteArray) (k : Nat) (h : k < s.size) : valD (s.data.toList.take (k + 1)) = 10 * valD (s.data.toList.take k) + (s[k].toNat - 48) := by
  have h' : k < s.data.toList.length := by rw [← Lib.size_eq]; exact h
  rw [List.take_succ_eq_append_getElem h', valD_snoc]
  rfl
theorem allDig_take (s : ByteArray) (k : Nat) (h : k < s.size) : allDig (s.data.toList.take (k + 1)) = (allDig (s.data.toList.take k) && isDig s[k]) := by
  have h' : k < s.data.toList.length := by rw [← Lib.size_eq]; exact h
  rw [List.take_succ_eq_append_getElem h', allDig, List.all_append]
  simp [allDig]
  rfl
theorem allDig_no (s : ByteArray) (k : Nat) (h : k < s.size) (hd : isDig s[k] = false) : allDig s.data.toList = false := by
  have h' : k < s.data.toList.length := by rw [← Lib.size_eq]; exact h
  rw [allDig, List.all_eq_false]
  exact ⟨s[k], List.getElem_mem h', by rw [hd]; simp⟩
theorem valD_take_bd (l : List UInt8) (k : Nat) (h : allDig (l.take k) = true) (hk : k ≤ 13) : valD (l.take k) < 10000000000000 := by
  have h1 := valD_bd (l.take k) (by simpa [allDig] using h)
  have h2 : (l.take k).length ≤ 13 := by rw [List.length_take]; omega
  have h3 : 10 ^ (l.take k).length ≤ 10 ^ 13 := Nat.pow_le_pow_right (by omega) h2
  omega

theorem take_size (s : ByteArray) : s.data.toList.take s.size = s.data.toList := by rw [Lib.size_eq]; exact List.take_length

theorem isNum_fmt (l : List UInt8) (ha : allDig l = true) (h1 : 1 ≤ l.length) (h2 : l.length ≤ 13) (hv : valD l ≤ 1000000000000) : isNum l = decide (fmtI (valD l : Nat) = l) := by
  have hf := fmt_val l (by simpa [allDig] using ha) (by rintro rfl; simp at h1)
  unfold isNum
  rw [ha, decide_eq_true h1, decide_eq_true h2, decide_eq_true hv]
  by_cases h : l.head? = some 48 ∧ 1 < l.length
  · rw [decide_eq_false (fun hx => (hf.1 hx) h), h.1, decide_eq_true h.2]; rfl
  · rw [decide_eq_true (hf.2 h)]
    have : (l.head? == some 48 && decide (1 < l.length)) = false := by
      rw [Bool.and_eq_false_iff]
      by_cases hh : l.head? = some 48
      · right; exact decide_eq_false (fun hx => h ⟨hh, hx⟩)
      · left; exact beq_eq_false_iff_ne.2 hh
    rw [this]; rfl
theorem fmt_str_eq (l : List UInt8) (s : ByteArray) (h : l = s.data.toList) : ((str l).toList == s.toList) = true := by
  rw [Lib.toList_data, Lib.toList_data, str_data, h]; simp
theorem fmt_str_ne (l : List UInt8) (s : ByteArray) (h : l ≠ s.data.toList) : ((str l).toList == s.toList) = false := by
  rw [Lib.toList_data, Lib.toList_data, str_data]; exact beq_eq_false_iff_ne.2 h

end Go.Proofs.Ytnbemdcdokhknaa
