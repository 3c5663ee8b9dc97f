/- The walks of IsName and IsStep, spec and impl. Every string. -/
import Derived.Test.YtkfmdkogifmfmaaDoorInts
import Derived.Test.YtkfmdkogifmfmaaDoorNum
import Derived.Laws.RangeString
import Derived.Laws.RangeAny
import Derived.WalkSpells
import Derived.WalkLawsBesides
namespace Go.Proofs.YtkfmdkogifmfmaaDoor
set_option linter.unusedSimpArgs false
set_option linter.unusedVariables false
open Go.RowKit

def isLow (c : UInt8) : Bool := decide (97 ≤ c.toNat) && decide (c.toNat ≤ 122)
def nameAt (s : ByteArray) (k : Nat) : Bool := match s.data.toList[k]? with
  | some c => isLow c || (isDig c && decide (k ≠ 0))
  | none => true
/-- Every one of the first k bytes may stand in a name. -/
def nameTo (s : ByteArray) : Nat → Bool
  | 0 => true
  | k + 1 => nameTo s k && nameAt s k
def isName (s : ByteArray) : Bool := nameTo s s.size && (decide (1 ≤ s.size) && decide (s.size ≤ 12))
theorem nameAt_eq (s : ByteArray) (k : Nat) (h : k < s.size) : nameAt s k = (isLow s[k] || (isDig s[k] && decide (k ≠ 0))) := by
  have h' : k < s.data.toList.length := by rw [← Lib.size_eq]; exact h
  rw [nameAt, List.getElem?_eq_getElem h']; rfl
theorem nameTo_no (s : ByteArray) (k n : Nat) (h : k < n) (hb : nameAt s k = false) : nameTo s n = false := by
  induction n with
  | zero => omega
  | succ n ih =>
    by_cases hk : k = n
    · subst hk; rw [nameTo, hb]; simp
    · rw [nameTo, ih (by omega)]; rfl
theorem nameTo_step (s : ByteArray) (k : Nat) (h : nameTo s k = true) (hb : nameAt s k = true) : nameTo s (k + 1) = true := by rw [nameTo, h, hb]; rfl

set_option maxHeartbeats 2000000 in
theorem specIsName_any (s : ByteArray) (w : World) (hs : s.size ≤ maxLen) :
    Calls Tryd.prog 59 #[.string s] w fun e w' => e = .returned (.bool (isName s)) ∧ w = w' := by
  unfold maxLen at hs
  go_enter Tryd.func59, Tryd.ntmps59
  go_wp2
  go_loop [3] (fun i => ∃ k : Nat, k ≤ s.size ∧ i = .int .i64 k ∧ nameTo s k = true) (fun i => s.size - (intOf i).toNat)
  case atStart => exact ⟨0, Nat.zero_le _, rfl, rfl⟩
  case round =>
    obtain ⟨k, hk, rfl, hn⟩ := hrel
    have HN := Lib.hid hn
    clear hn
    by_cases hlt : k < s.size
    · have e := nameAt_eq s k hlt
      have good : nameAt s k = true → Hid (nameTo s (k + 1) = true) := fun h => nameTo_step s k HN.out h
      have bad : nameAt s k = false → Hid (isName s = false) := fun h => by show isName s = false; rw [isName, nameTo_no s k s.size hlt h]; rfl
      by_cases a1 : 97 ≤ s[k].toNat
      · by_cases a2 : s[k].toNat ≤ 122
        · have H := good (by rw [e]; simp [isLow, a1, a2])
          have d1 : decide (97 ≤ (s[k].toNat : Int)) = true := decide_eq_true (by omega)
          have d2 : decide ((s[k].toNat : Int) ≤ 122) = true := decide_eq_true (by omega)
          have d3 : decide (48 ≤ (s[k].toNat : Int)) = true := decide_eq_true (by omega)
          have d4 : decide ((s[k].toNat : Int) ≤ 57) = false := decide_eq_false (by omega)
          clear e good bad a1 a2
          go_wp2
          all_goals
            go_round
            case rel => exact ⟨k + 1, by omega, by go_num, H.out⟩
            case measure => simp [intOf] <;> omega
        · have H := bad (by rw [e]; simp [isLow, isDig]; omega)
          have d1 : decide (97 ≤ (s[k].toNat : Int)) = true := decide_eq_true (by omega)
          have d2 : decide ((s[k].toNat : Int) ≤ 122) = false := decide_eq_false (by omega)
          have d3 : decide (48 ≤ (s[k].toNat : Int)) = true := decide_eq_true (by omega)
          have d4 : decide ((s[k].toNat : Int) ≤ 57) = false := decide_eq_false (by omega)
          clear e good bad a1 a2
          go_wp2
          all_goals
            go_ret
            exact ⟨ret_bool H.out.symm, rfl⟩
      · have d1 : decide (97 ≤ (s[k].toNat : Int)) = false := decide_eq_false (by omega)
        by_cases b1 : 48 ≤ s[k].toNat
        · have d3 : decide (48 ≤ (s[k].toNat : Int)) = true := decide_eq_true (by omega)
          by_cases b2 : s[k].toNat ≤ 57
          · have d4 : decide ((s[k].toNat : Int) ≤ 57) = true := decide_eq_true (by omega)
            by_cases hk0 : k = 0
            · have H := bad (by rw [e, show isLow s[k] = false by simp [isLow]; omega, decide_eq_false (show ¬ k ≠ 0 by omega)]; simp)
              have d5 : ((k : Int) == 0) = true := by rw [beq_iff_eq]; omega
              clear e good bad a1 b1 b2 hk0
              go_wp2
              all_goals
                go_ret
                exact ⟨ret_bool H.out.symm, rfl⟩
            · have H := good (by rw [e, show isDig s[k] = true by simp [isDig]; omega, decide_eq_true hk0]; simp)
              have d5 : ((k : Int) == 0) = false := by rw [beq_eq_false_iff_ne]; omega
              clear e good bad a1 b1 b2 hk0
              go_wp2
              all_goals
                go_round
                case rel => exact ⟨k + 1, by omega, by go_num, H.out⟩
                case measure => simp [intOf] <;> omega
          · have d4 : decide ((s[k].toNat : Int) ≤ 57) = false := decide_eq_false (by omega)
            have H := bad (by rw [e]; simp [isLow, isDig]; omega)
            clear e good bad a1 b1 b2
            go_wp2
            all_goals
              go_ret
              exact ⟨ret_bool H.out.symm, rfl⟩
        · have d3 : decide (48 ≤ (s[k].toNat : Int)) = false := decide_eq_false (by omega)
          have H := bad (by rw [e]; simp [isLow, isDig]; omega)
          clear e good bad a1 b1
          go_wp2
          all_goals
            go_ret
            exact ⟨ret_bool H.out.symm, rfl⟩
    · have hks : k = s.size := by omega
      have HX := Lib.hid (show isName s = inB (s.size : Int) 1 12 by
        rw [isName, ← hks, HN.out, hks]
        unfold inB
        rw [Bool.eq_iff_iff]; simp; omega)
      clear hks
      go_wp2_with (go_at_call 22; refine (l1In_any _ _ _ _).mono ?_; rintro e w' ⟨rfl, rfl⟩)
      go_ret
      exact ⟨ret_bool HX.out.symm, rfl⟩

theorem below_iter (w : World) (s : ByteArray) (p : Nat) : Below w.heap.size w (w.iter s p) := (Below.refl _ _).alloc (Nat.le_refl _) _

set_option maxHeartbeats 2000000 in
theorem implIsName_any (s : ByteArray) (w : World) (hs : s.size ≤ maxLen) :
    Calls Tryd.prog 61 #[.string s] w fun e w' => e = .returned (.bool (isName s)) ∧ Below w.heap.size w w' := by
  unfold maxLen at hs
  by_cases h1 : s.size < 1
  · have H := Lib.hid (show isName s = false by rw [isName, decide_eq_false (show ¬ 1 ≤ s.size by omega)]; simp)
    have d1 : decide ((s.size : Int) < 1) = true := decide_eq_true (by omega)
    clear h1
    go_enter Tryd.func61, Tryd.ntmps61
    go_wp2
    go_ret
    exact ⟨ret_bool H.out.symm, Below.refl _ _⟩
  have d1 : decide ((s.size : Int) < 1) = false := decide_eq_false (by omega)
  by_cases h2 : 12 < s.size
  · have H := Lib.hid (show isName s = false by rw [isName, decide_eq_false (show ¬ s.size ≤ 12 by omega)]; simp)
    have d2 : decide (12 < (s.size : Int)) = true := decide_eq_true (by omega)
    clear h2 h1
    go_enter Tryd.func61, Tryd.ntmps61
    go_wp2
    go_ret
    exact ⟨ret_bool H.out.symm, Below.refl _ _⟩
  have d2 : decide (12 < (s.size : Int)) = false := decide_eq_false (by omega)
  go_enter Tryd.func61, Tryd.ntmps61
  go_wp2
  clear d1 d2
  go_loopw [3] (fun _ wr => ∃ p : Nat, wr = w.iter s p ∧ p ≤ s.size ∧ nameTo s p = true) (fun _ wr => s.size - wr.iterPos w.heap.size)
  case atStart => exact ⟨0, rfl, Nat.zero_le _, rfl⟩
  case round =>
    obtain ⟨k, rfl, hk, hn⟩ := hrel
    have HN := Lib.hid hn
    clear hn
    by_cases hlt : k < s.size
    · have e := nameAt_eq s k hlt
      have good : nameAt s k = true → Hid (nameTo s (k + 1) = true) := fun h => nameTo_step s k HN.out h
      have bad : nameAt s k = false → Hid (isName s = false) := fun h => by show isName s = false; rw [isName, nameTo_no s k s.size hlt h]; rfl
      by_cases ha : s[k].toNat < 128
      · have hnx : ∀ ty, (Instr.next (.pointer (some ⟨w.heap.size, 0, none⟩)) true ty).run Tryd.prog (w.iter s k) = _ := fun ty => run_next_ascii w s k ty hlt ha
        by_cases a1 : 97 ≤ s[k].toNat
        · have e1 : decide (97 ≤ (s[k].toNat : Int)) = true := decide_eq_true (by omega)
          have e3 : decide (48 ≤ (s[k].toNat : Int)) = true := decide_eq_true (by omega)
          have e4 : decide ((s[k].toNat : Int) ≤ 57) = false := decide_eq_false (by omega)
          by_cases a2 : s[k].toNat ≤ 122
          · have H := good (by rw [e]; simp [isLow, a1, a2])
            have e2 : decide ((s[k].toNat : Int) ≤ 122) = true := decide_eq_true (by omega)
            clear e good bad a1 a2 ha
            go_wp2
            go_roundw
            case rel => exact ⟨k + 1, rfl, by omega, H.out⟩
            case measure => simp <;> omega
          · have H := bad (by rw [e]; simp [isLow, isDig]; omega)
            have e2 : decide ((s[k].toNat : Int) ≤ 122) = false := decide_eq_false (by omega)
            clear e good bad a1 a2 ha
            go_wp2
            go_ret
            exact ⟨ret_bool H.out.symm, below_iter _ _ _⟩
        · have e1 : decide (97 ≤ (s[k].toNat : Int)) = false := decide_eq_false (by omega)
          by_cases b1 : 48 ≤ s[k].toNat
          · have e3 : decide (48 ≤ (s[k].toNat : Int)) = true := decide_eq_true (by omega)
            by_cases b2 : s[k].toNat ≤ 57
            · have e4 : decide ((s[k].toNat : Int) ≤ 57) = true := decide_eq_true (by omega)
              by_cases hk0 : k = 0
              · have H := bad (by rw [e, show isLow s[k] = false by simp [isLow]; omega, decide_eq_false (show ¬ k ≠ 0 by omega)]; simp)
                have e5 : ((k : Int) == 0) = true := by rw [beq_iff_eq]; omega
                clear e good bad a1 b1 b2 hk0 ha
                go_wp2
                go_ret
                exact ⟨ret_bool H.out.symm, below_iter _ _ _⟩
              · have H := good (by rw [e, show isDig s[k] = true by simp [isDig]; omega, decide_eq_true hk0]; simp)
                have e5 : ((k : Int) == 0) = false := by rw [beq_eq_false_iff_ne]; omega
                clear e good bad a1 b1 b2 hk0 ha
                go_wp2
                go_roundw
                case rel => exact ⟨k + 1, rfl, by omega, H.out⟩
                case measure => simp <;> omega
            · have e4 : decide ((s[k].toNat : Int) ≤ 57) = false := decide_eq_false (by omega)
              have H := bad (by rw [e]; simp [isLow, isDig]; omega)
              clear e good bad a1 b1 b2 ha
              go_wp2
              go_ret
              exact ⟨ret_bool H.out.symm, below_iter _ _ _⟩
          · have e3 : decide (48 ≤ (s[k].toNat : Int)) = false := decide_eq_false (by omega)
            have H := bad (by rw [e]; simp [isLow, isDig]; omega)
            clear e good bad a1 b1 ha
            go_wp2
            go_ret
            exact ⟨ret_bool H.out.symm, below_iter _ _ _⟩
      · have H := bad (by rw [e]; simp [isLow, isDig]; omega)
        have hnx0 := fun ty => run_next_any (P := Tryd.prog) w s k ty hlt
        obtain ⟨r1, _⟩ := decode_high s k hlt (by omega)
        have r2 := decode_le s k
        generalize (Utf8.decode s k).1 = r at *
        generalize k + (Utf8.decode s k).2 = p' at *
        have e1 : decide (97 ≤ (r : Int)) = true := decide_eq_true (by omega)
        have e2 : decide ((r : Int) ≤ 122) = false := decide_eq_false (by omega)
        have e3 : decide (48 ≤ (r : Int)) = true := decide_eq_true (by omega)
        have e4 : decide ((r : Int) ≤ 57) = false := decide_eq_false (by omega)
        clear e good bad ha
        go_wp2
        go_ret
        exact ⟨ret_bool H.out.symm, below_iter _ _ _⟩
    · have hks : k = s.size := by omega
      have hnx : ∀ ty, (Instr.next (.pointer (some ⟨w.heap.size, 0, none⟩)) true ty).run Tryd.prog (w.iter s k) = _ := fun ty => run_next_end w s k ty hlt
      have HX := Lib.hid (show isName s = true by
        rw [isName, ← hks, HN.out, hks, decide_eq_true (show 1 ≤ s.size by omega), decide_eq_true (show s.size ≤ 12 by omega)]; rfl)
      clear hks
      go_wp2
      go_ret
      exact ⟨ret_bool HX.out.symm, below_iter _ _ _⟩

/-! ### IsStep -/
def isStep (s : ByteArray) : Bool := isName s || (s.toList == [42] || (s.toList == [63] || (s.toList == [43] || isNum s.data.toList)))

theorem isNum_text (l : List UInt8) (h : isNum l = true) : fmtI (valD l : Nat) = l ∧ numOf l = (valD l : Int) ∧ valD l ≤ 1000000000000 := by
  have h' := h
  unfold isNum at h'
  simp only [Bool.and_eq_true, decide_eq_true_eq] at h'
  obtain ⟨a, b, c, _, e⟩ := h'
  have := isNum_fmt l c a b e
  rw [h] at this
  exact ⟨of_decide_eq_true this.symm, by rw [numOf, if_pos h], e⟩

end Go.Proofs.YtkfmdkogifmfmaaDoor
namespace Go.Proofs.YtkfmdkogifmfmaaDoor.FnExactIsStep
open Go.RowKit
end Go.Proofs.YtkfmdkogifmfmaaDoor.FnExactIsStep
