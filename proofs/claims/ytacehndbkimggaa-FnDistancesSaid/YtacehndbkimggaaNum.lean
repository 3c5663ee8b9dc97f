/- The walks of small functions on integers: l1In, InRange, Min, Max, Mod, NextNumber. Condition: the integers fit an int where a sum is made. -/
import Derived.Test.YtacehndbkimggaaRows
import Derived.Test.YtacehndbkimggaaMem
import Derived.WalkSpells
import Derived.WalkLawsBesides
namespace Go.Proofs.Ytacehndbkimggaa
open Go.RowKit

def inB (x a b : Int) : Bool := decide (a ≤ x) && decide (x ≤ b)
theorem inB_true {x a b : Int} (h : a ≤ x) (h' : x ≤ b) : inB x a b = true := by simp [inB, h, h']
theorem inB_false {x a b : Int} (h : x < a ∨ b < x) : inB x a b = false := by
  simp only [inB, Bool.and_eq_false_iff, decide_eq_false_iff_not]; omega
theorem inB_iff {x a b : Int} : inB x a b = true ↔ a ≤ x ∧ x ≤ b := by simp [inB]

theorem l1In_any (x a b : Int) (w : World) : Calls Try.prog 33 #[.int .i64 x, .int .i64 a, .int .i64 b] w fun e w' => e = .returned (.bool (inB x a b)) ∧ w = w' := by
  by_cases h : a ≤ x
  · by_cases h2 : x ≤ b
    · have H := Lib.hid (inB_true h h2)
      go_enter Try.func33, Try.ntmps33
      go_wp2
      go_ret
      exact ⟨ret_bool (by rw [H.out]; try simp [h2]), rfl⟩
    · have H := Lib.hid (inB_false (x := x) (a := a) (b := b) (by omega))
      have h4 : decide (x ≤ b) = false := by simpa using h2
      go_enter Try.func33, Try.ntmps33
      go_wp2
      go_ret
      exact ⟨ret_bool (by rw [H.out]), rfl⟩
  · have H := Lib.hid (inB_false (x := x) (a := a) (b := b) (by omega))
    have h3 : decide (a ≤ x) = false := by simpa using h
    go_enter Try.func33, Try.ntmps33
    go_wp2
    go_ret
    exact ⟨ret_bool (by rw [H.out]), rfl⟩

theorem InRange_any (x a b : Int) (w : World) : Calls Try.prog 35 #[.int .i64 x, .int .i64 a, .int .i64 b] w fun e w' => e = .returned (.bool (inB x a b)) ∧ w = w' := by
  by_cases h : a ≤ x
  · by_cases h2 : x ≤ b
    · have H := Lib.hid (inB_true h h2)
      go_enter Try.func35, Try.ntmps35
      go_wp2
      go_ret
      exact ⟨ret_bool (by rw [H.out]; try simp [h2]), rfl⟩
    · have H := Lib.hid (inB_false (x := x) (a := a) (b := b) (by omega))
      have h4 : decide (x ≤ b) = false := by simpa using h2
      go_enter Try.func35, Try.ntmps35
      go_wp2
      go_ret
      exact ⟨ret_bool (by rw [H.out]), rfl⟩
  · have H := Lib.hid (inB_false (x := x) (a := a) (b := b) (by omega))
    have h3 : decide (a ≤ x) = false := by simpa using h
    go_enter Try.func35, Try.ntmps35
    go_wp2
    go_ret
    exact ⟨ret_bool (by rw [H.out]), rfl⟩

theorem specMax_any (a b : Int) (w : World) : Calls Try.prog 30 #[.int .i64 a, .int .i64 b] w fun e w' => e = .returned (.int .i64 (max a b)) ∧ w = w' := by
  by_cases h : a < b
  · have H := Lib.hid (show max a b = b by omega)
    go_enter Try.func30, Try.ntmps30
    go_wp2
    go_ret
    exact ⟨ret_int H.out.symm, rfl⟩
  · have H := Lib.hid (show max a b = a by omega)
    go_enter Try.func30, Try.ntmps30
    go_wp2
    go_ret
    exact ⟨ret_int H.out.symm, rfl⟩
theorem specMin_any (a b : Int) (w : World) : Calls Try.prog 42 #[.int .i64 a, .int .i64 b] w fun e w' => e = .returned (.int .i64 (min a b)) ∧ w = w' := by
  by_cases h : b < a
  · have H := Lib.hid (show min a b = b by omega)
    go_enter Try.func42, Try.ntmps42
    go_wp2
    go_ret
    exact ⟨ret_int H.out.symm, rfl⟩
  · have H := Lib.hid (show min a b = a by omega)
    go_enter Try.func42, Try.ntmps42
    go_wp2
    go_ret
    exact ⟨ret_int H.out.symm, rfl⟩

/-- n modulo m, not negative, 0 where m is out of range. -/
def modI (n m : Int) : Int := if 1 ≤ m ∧ m ≤ 1000000000000 then n % m else 0

theorem tmod_two (n m : Int) (h : 1 ≤ m) : (0 ≤ n.tmod m → n.tmod m = n % m) ∧ (n.tmod m < 0 → n.tmod m + m = n % m) := by
  have h1 := Int.tmod_lt_of_pos n (show 0 < m by omega)
  have h2 := Int.lt_tmod_of_pos n (show 0 < m by omega)
  have h3 : n % m = (n.tmod m) % m := by
    have := Int.mul_tdiv_add_tmod n m
    conv => lhs; rw [← this]
    rw [Int.mul_add_emod_self_left]
  constructor
  · intro h0
    rw [h3, Int.emod_eq_of_lt h0 h1]
  · intro h0
    rw [h3]
    have : n.tmod m % m = (n.tmod m + m) % m := by simp
    rw [this, Int.emod_eq_of_lt (by omega) (by omega)]
theorem tmod_fix (n m : Int) (h : 1 ≤ m) : (n.tmod m + m) % m = n % m := by
  have h3 : n % m = (n.tmod m) % m := by
    have := Int.mul_tdiv_add_tmod n m
    conv => lhs; rw [← this]
    rw [Int.mul_add_emod_self_left]
  rw [h3]; simp

theorem specMod_any (n m : Int) (w : World) : Calls Try.prog 54 #[.int .i64 n, .int .i64 m] w fun e w' => e = .returned (.int .i64 (modI n m)) ∧ w = w' := by
  by_cases h : 1 ≤ m ∧ m ≤ 1000000000000
  · have H := Lib.hid (show modI n m = n % m by simp [modI, h])
    have hb := inB_true h.1 h.2
    obtain ⟨h1, h2⟩ := h
    have f1 := Int.tmod_lt_of_pos n (show 0 < m by omega)
    have f2 := Int.lt_tmod_of_pos n (show 0 < m by omega)
    have hne : (m == 0) = false := by simp; omega
    have HT := Lib.hid (tmod_fix n m h1)
    go_enter Try.func54, Try.ntmps54
    go_wp2_with (go_at_call 33; refine (l1In_any _ _ _ _).mono ?_; rintro e w' ⟨rfl, rfl⟩)
    go_ret
    exact ⟨ret_int (by rw [H.out, ← HT.out]), rfl⟩
  · have H := Lib.hid (show modI n m = 0 by simp [modI, h])
    have hb := inB_false (x := m) (a := 1) (b := 1000000000000) (by omega)
    clear h
    go_enter Try.func54, Try.ntmps54
    go_wp2_with (go_at_call 33; refine (l1In_any _ _ _ _).mono ?_; rintro e w' ⟨rfl, rfl⟩)
    go_ret
    exact ⟨ret_int H.out.symm, rfl⟩

theorem implMod_any (n m : Int) (w : World) : Calls Try.prog 55 #[.int .i64 n, .int .i64 m] w fun e w' => e = .returned (.int .i64 (modI n m)) ∧ w = w' := by
  by_cases h : 1 ≤ m ∧ m ≤ 1000000000000
  · have H := Lib.hid (show modI n m = n % m by simp [modI, h])
    have hb := inB_true h.1 h.2
    obtain ⟨h1, h2⟩ := h
    have f1 := Int.tmod_lt_of_pos n (show 0 < m by omega)
    have f2 := Int.lt_tmod_of_pos n (show 0 < m by omega)
    have hne : (m == 0) = false := by simp; omega
    have HT := Lib.hid (tmod_two n m h1)
    by_cases h0 : n.tmod m < 0
    · go_enter Try.func55, Try.ntmps55
      go_wp2_with (go_at_call 35; refine (InRange_any _ _ _ _).mono ?_; rintro e w' ⟨rfl, rfl⟩)
      go_ret
      refine ⟨ret_int ?_, rfl⟩
      rw [H.out, (HT.out).2 h0]
    · go_enter Try.func55, Try.ntmps55
      go_wp2_with (go_at_call 35; refine (InRange_any _ _ _ _).mono ?_; rintro e w' ⟨rfl, rfl⟩)
      go_ret
      refine ⟨ret_int ?_, rfl⟩
      rw [H.out, (HT.out).1 (by omega)]
  · have H := Lib.hid (show modI n m = 0 by simp [modI, h])
    have hb := inB_false (x := m) (a := 1) (b := 1000000000000) (by omega)
    clear h
    go_enter Try.func55, Try.ntmps55
    go_wp2_with (go_at_call 35; refine (InRange_any _ _ _ _).mono ?_; rintro e w' ⟨rfl, rfl⟩)
    go_ret
    exact ⟨ret_int H.out.symm, rfl⟩

def nextNo (s : Int) : Int := max 1 (s % 2147483647 * 48271 % 2147483647)
theorem nextNo_bd (s : Int) : 1 ≤ nextNo s ∧ nextNo s < 2147483647 := by unfold nextNo; omega

theorem specNextNumber_any (s : Int) (w : World) : Calls Try.prog 48 #[.int .i64 s] w fun e w' => e = .returned (.int .i64 (nextNo s)) ∧ w = w' := by
  have H := Lib.hid (show modI s 2147483647 = s % 2147483647 by simp [modI])
  have b1 : 0 ≤ modI s 2147483647 := by rw [H.out]; omega
  have b2 : modI s 2147483647 < 2147483647 := by rw [H.out]; omega
  go_enter Try.func48, Try.ntmps48
  go_wp2_with (first | (go_at_call 54; refine (specMod_any _ _ _).mono ?_; rintro e w' ⟨rfl, rfl⟩) | (go_at_call 30; refine (specMax_any _ _ _).mono ?_; rintro e w' ⟨rfl, rfl⟩))
  go_ret
  exact ⟨ret_int (by rw [H.out]; rfl), rfl⟩

theorem implNextNumber_any (s : Int) (w : World) : Calls Try.prog 50 #[.int .i64 s] w fun e w' => e = .returned (.int .i64 (nextNo s)) ∧ w = w' := by
  have H := Lib.hid (show modI s 2147483647 = s % 2147483647 by simp [modI])
  have b1 : 0 ≤ modI s 2147483647 := by rw [H.out]; omega
  have b2 : modI s 2147483647 < 2147483647 := by rw [H.out]; omega
  by_cases h0 : modI s 2147483647 * 48271 % 2147483647 = 0
  · have HX := Lib.hid (show nextNo s = 1 by rw [H.out] at h0; unfold nextNo; omega)
    have hb : (modI s 2147483647 * 48271 % 2147483647 == 0) = true := by simpa using h0
    clear h0
    go_enter Try.func50, Try.ntmps50
    go_wp2_with (go_at_call 55; refine (implMod_any _ _ _).mono ?_; rintro e w' ⟨rfl, rfl⟩)
    go_ret
    exact ⟨ret_int HX.out.symm, rfl⟩
  · have HX := Lib.hid (show nextNo s = modI s 2147483647 * 48271 % 2147483647 by rw [H.out] at h0 ⊢; unfold nextNo; omega)
    have hb : (modI s 2147483647 * 48271 % 2147483647 == 0) = false := by simpa using h0
    clear h0
    go_enter Try.func50, Try.ntmps50
    go_wp2_with (go_at_call 55; refine (implMod_any _ _ _).mono ?_; rintro e w' ⟨rfl, rfl⟩)
    go_ret
    exact ⟨ret_int HX.out.symm, rfl⟩
end Go.Proofs.Ytacehndbkimggaa
