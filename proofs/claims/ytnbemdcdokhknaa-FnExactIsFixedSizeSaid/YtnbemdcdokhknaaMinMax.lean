/- The walks of impl.Max and impl.Min of two numbers, with impl.pick. No condition. -/
import Derived.Test.YtnbemdcdokhknaaNum
import Derived.WalkSpells
import Derived.WalkLawsBesides
namespace Go.Proofs.Ytnbemdcdokhknaa
set_option linter.unusedSimpArgs false
set_option linter.unusedVariables false
open Go.RowKit
set_option maxHeartbeats 400000 in
theorem iPickMax_any (a b : Int) (B : Nat) (v : Value) (w : World) (h : SlI w B v [b]) :
    Calls Try.prog 59 #[.func (.func 76) #[] #[], .int .i64 a, v] w fun e w' => e = .returned (.int .i64 (max a b)) ∧ w = w' := by
  obtain ⟨A, c, rfl, hc, hm, hcell⟩ := h.one
  unfold maxLen at hm
  obtain ⟨bb, off, rfl, hbB, hc0⟩ := hcell 0 (by simp)
  have hc0 : w.cell? ⟨bb, off, none⟩ = some (.int .i64 b) := hc0
  simp only [List.length_cons, List.length_nil, Nat.zero_add] at hc
  clear hcell h
  simp only [List.length_cons, List.length_nil, Nat.zero_add]
  by_cases hlt : a < b
  · have H := Lib.hid (show max a b = b by omega)
    go_enter Try.func59, Try.ntmps59
    go_wp2
    refine wp_loop_rounds 2 ?_
    rw [rounds_succ]
    go_wp2
    rw [rounds_succ]
    go_wp2
    go_ret
    exact ⟨ret_int H.out.symm, rfl⟩
  · have H := Lib.hid (show max a b = a by omega)
    go_enter Try.func59, Try.ntmps59
    go_wp2
    refine wp_loop_rounds 2 ?_
    rw [rounds_succ]
    go_wp2
    rw [rounds_succ]
    go_wp2
    go_ret
    exact ⟨ret_int H.out.symm, rfl⟩

theorem iMax_any (a b : Int) (w : World) :
    Calls Try.prog 62 #[.int .i64 a, .int .i64 b] w fun e w' => e = .returned (.int .i64 (max a b)) ∧ Below w.heap.size w w' := by
  go_enter Try.func62, Try.ntmps62
  go_wp2_with fail
  refine (iPickMax_any a b (w.heap.size + 1) _ _ ⟨by simp, _, _, rfl, by simp, by simp [maxLen], fun _ => ⟨w.heap.size, 0, rfl, by omega, fun j u hu => ?_⟩⟩).mono ?_
  · match j, hu with
    | 0, hu => simp at hu; subst hu; simp [go_sem]
  · rintro e w2 ⟨rfl, rfl⟩
    go_wp2
    go_ret
    exact ⟨rfl, (by repeat (first | exact Below.refl _ _ | assumption | refine Below.alloc ?_ (by first | omega | (simp <;> omega)) _ | refine Below.setCell ?_ (by first | omega | (simp <;> omega)) _ | refine Below.drew ?_ | refine below_drewN ?_ _))⟩

set_option maxHeartbeats 400000 in
theorem iPickMin_any (a b : Int) (B : Nat) (v : Value) (w : World) (h : SlI w B v [b]) :
    Calls Try.prog 59 #[.func (.func 60) #[] #[], .int .i64 a, v] w fun e w' => e = .returned (.int .i64 (min a b)) ∧ w = w' := by
  obtain ⟨A, c, rfl, hc, hm, hcell⟩ := h.one
  unfold maxLen at hm
  obtain ⟨bb, off, rfl, hbB, hc0⟩ := hcell 0 (by simp)
  have hc0 : w.cell? ⟨bb, off, none⟩ = some (.int .i64 b) := hc0
  simp only [List.length_cons, List.length_nil, Nat.zero_add] at hc
  clear hcell h
  simp only [List.length_cons, List.length_nil, Nat.zero_add]
  by_cases hlt : b < a
  · have H := Lib.hid (show min a b = b by omega)
    go_enter Try.func59, Try.ntmps59
    go_wp2
    refine wp_loop_rounds 2 ?_
    rw [rounds_succ]
    go_wp2
    rw [rounds_succ]
    go_wp2
    go_ret
    exact ⟨ret_int H.out.symm, rfl⟩
  · have H := Lib.hid (show min a b = a by omega)
    go_enter Try.func59, Try.ntmps59
    go_wp2
    refine wp_loop_rounds 2 ?_
    rw [rounds_succ]
    go_wp2
    rw [rounds_succ]
    go_wp2
    go_ret
    exact ⟨ret_int H.out.symm, rfl⟩

theorem iMin_any (a b : Int) (w : World) :
    Calls Try.prog 44 #[.int .i64 a, .int .i64 b] w fun e w' => e = .returned (.int .i64 (min a b)) ∧ Below w.heap.size w w' := by
  go_enter Try.func44, Try.ntmps44
  go_wp2_with fail
  refine (iPickMin_any a b (w.heap.size + 1) _ _ ⟨by simp, _, _, rfl, by simp, by simp [maxLen], fun _ => ⟨w.heap.size, 0, rfl, by omega, fun j u hu => ?_⟩⟩).mono ?_
  · match j, hu with
    | 0, hu => simp at hu; subst hu; simp [go_sem]
  · rintro e w2 ⟨rfl, rfl⟩
    go_wp2
    go_ret
    exact ⟨rfl, (by repeat (first | exact Below.refl _ _ | assumption | refine Below.alloc ?_ (by first | omega | (simp <;> omega)) _ | refine Below.setCell ?_ (by first | omega | (simp <;> omega)) _ | refine Below.drew ?_ | refine below_drewN ?_ _))⟩

end Go.Proofs.Ytnbemdcdokhknaa
