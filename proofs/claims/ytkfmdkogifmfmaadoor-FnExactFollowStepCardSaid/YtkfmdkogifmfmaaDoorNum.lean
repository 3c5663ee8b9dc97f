/- The walks of small functions on integers: l1In, InRange, Min, Max, Mod, NextNumber. Condition: the integers fit an int where a sum is made. -/
import Derived.Test.YtkfmdkogifmfmaaDoorRows
import Derived.Test.YtkfmdkogifmfmaaDoorMem
import Derived.WalkSpells
import Derived.WalkLawsBesides
namespace Go.Proofs.YtkfmdkogifmfmaaDoor
set_option linter.unusedSimpArgs false
set_option linter.unusedVariables false
open Go.RowKit

def inB (x a b : Int) : Bool := decide (a ≤ x) && decide (x ≤ b)
theorem inB_true {x a b : Int} (h : a ≤ x) (h' : x ≤ b) : inB x a b = true := by simp [inB, h, h']
theorem inB_false {x a b : Int} (h : x < a ∨ b < x) : inB x a b = false := by
  simp only [inB, Bool.and_eq_false_iff, decide_eq_false_iff_not]; omega
theorem inB_iff {x a b : Int} : inB x a b = true ↔ a ≤ x ∧ x ≤ b := by simp [inB]

theorem l1In_any (x a b : Int) (w : World) : Calls Tryd.prog 22 #[.int .i64 x, .int .i64 a, .int .i64 b] w fun e w' => e = .returned (.bool (inB x a b)) ∧ w = w' := by
  by_cases h : a ≤ x
  · by_cases h2 : x ≤ b
    · have H := Lib.hid (inB_true h h2)
      go_enter Tryd.func22, Tryd.ntmps22
      go_wp2
      go_ret
      exact ⟨ret_bool (by rw [H.out]; try simp [h2]), rfl⟩
    · have H := Lib.hid (inB_false (x := x) (a := a) (b := b) (by omega))
      have h4 : decide (x ≤ b) = false := by simpa using h2
      go_enter Tryd.func22, Tryd.ntmps22
      go_wp2
      go_ret
      exact ⟨ret_bool (by rw [H.out]), rfl⟩
  · have H := Lib.hid (inB_false (x := x) (a := a) (b := b) (by omega))
    have h3 : decide (a ≤ x) = false := by simpa using h
    go_enter Tryd.func22, Tryd.ntmps22
    go_wp2
    go_ret
    exact ⟨ret_bool (by rw [H.out]), rfl⟩

theorem InRange_any (x a b : Int) (w : World) : Calls Tryd.prog 53 #[.int .i64 x, .int .i64 a, .int .i64 b] w fun e w' => e = .returned (.bool (inB x a b)) ∧ w = w' := by
  by_cases h : a ≤ x
  · by_cases h2 : x ≤ b
    · have H := Lib.hid (inB_true h h2)
      go_enter Tryd.func53, Tryd.ntmps53
      go_wp2
      go_ret
      exact ⟨ret_bool (by rw [H.out]; try simp [h2]), rfl⟩
    · have H := Lib.hid (inB_false (x := x) (a := a) (b := b) (by omega))
      have h4 : decide (x ≤ b) = false := by simpa using h2
      go_enter Tryd.func53, Tryd.ntmps53
      go_wp2
      go_ret
      exact ⟨ret_bool (by rw [H.out]), rfl⟩
  · have H := Lib.hid (inB_false (x := x) (a := a) (b := b) (by omega))
    have h3 : decide (a ≤ x) = false := by simpa using h
    go_enter Tryd.func53, Tryd.ntmps53
    go_wp2
    go_ret
    exact ⟨ret_bool (by rw [H.out]), rfl⟩

/-- n modulo m, not negative, 0 where m is out of range. -/
def modI (n m : Int) : Int := if 1 ≤ m ∧ m ≤ 1000000000000 then n % m else 0

theorem tmod_two (n m : Int) (h : 1 ≤ m) : (0 ≤ n.tmod m → n.tmod m = n % m) ∧ (n.tmod m < 0 → n.tmod m + m = n % m) := by
  have h1 := Int.tmod_lt_of_pos n (show 0 < m by omega)
  have h2 := Int.lt_tmod_of_pos n (show 0 < m by omega)
  have h3 : n % m = (n.tmod m) % m := by
    have := Int.mul_tdiv_add_tmod n m
    conv => lhs; rw [← this]
    rw [Int.mul_add_emod_self_left]
  constructor
  · intro h0
    rw [h3, Int.emod_eq_of_lt h0 h1]
  · intro h0
    rw [h3]
    have : n.tmod m % m = (n.tmod m + m) % m := by simp
    rw [this, Int.emod_eq_of_lt (by omega) (by omega)]
theorem tmod_fix (n m : Int) (h : 1 ≤ m) : (n.tmod m + m) % m = n % m := by
  have h3 : n % m = (n.tmod m) % m := by
    have := Int.mul_tdiv_add_tmod n m
    conv => lhs; rw [← this]
    rw [Int.mul_add_emod_self_left]
  rw [h3]; simp

def nextNo (s : Int) : Int := max 1 (s % 2147483647 * 48271 % 2147483647)
theorem nextNo_bd (s : Int) : 1 ≤ nextNo s ∧ nextNo s < 2147483647 := by unfold nextNo; omega

end Go.Proofs.YtkfmdkogifmfmaaDoor
