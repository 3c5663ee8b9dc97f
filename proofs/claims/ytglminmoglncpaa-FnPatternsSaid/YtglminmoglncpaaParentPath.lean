/- The walks of spec.ParentPath and impl.ParentPath (with impl.Max and impl.pick at two numbers) and of the law. Every path. -/
import Derived.Test.YtglminmoglncpaaShelf
import Derived.Test.YtglminmoglncpaaNum
import Derived.WalkSpells
import Derived.WalkLawsBesides
namespace Go.Proofs.Ytglminmoglncpaa
open Go.RowKit

def parentOf (s : ByteArray) : ByteArray := s.extract 0 (Lib.lastIndexByte s 47).toNat

theorem byte_bang (s : ByteArray) (k : Nat) (h : k < s.size) : s.data[k]! = s[k] := by
  have h' : k < s.data.size := h
  rw [getElem!_pos s.data k h']; rfl

set_option maxHeartbeats 400000 in
theorem pickMax_any (a b : Int) (B : Nat) (v : Value) (w : World) (h : SlI w B v [b]) :
    Calls Try.prog 53 #[.func (.func 54) #[] #[], .int .i64 a, v] w fun e w' => e = .returned (.int .i64 (max a b)) ∧ w = w' := by
  obtain ⟨A, c, rfl, hc, hm, hcell⟩ := h.one
  unfold maxLen at hm
  obtain ⟨bb, off, rfl, hbB, hc0⟩ := hcell 0 (by simp)
  have hc0 : w.cell? ⟨bb, off, none⟩ = some (.int .i64 b) := hc0
  simp only [List.length_cons, List.length_nil, Nat.zero_add] at hc
  clear hcell h
  simp only [List.length_cons, List.length_nil, Nat.zero_add]
  by_cases hlt : a < b
  · have H := Lib.hid (show max a b = b by omega)
    go_enter Try.func53, Try.ntmps53
    go_wp2
    refine wp_loop_rounds 2 ?_
    rw [rounds_succ]
    go_wp2
    rw [rounds_succ]
    go_wp2
    go_ret
    exact ⟨ret_int H.out.symm, rfl⟩
  · have H := Lib.hid (show max a b = a by omega)
    go_enter Try.func53, Try.ntmps53
    go_wp2
    refine wp_loop_rounds 2 ?_
    rw [rounds_succ]
    go_wp2
    rw [rounds_succ]
    go_wp2
    go_ret
    exact ⟨ret_int H.out.symm, rfl⟩

theorem implMax_any (a b : Int) (w : World) :
    Calls Try.prog 38 #[.int .i64 a, .int .i64 b] w fun e w' => e = .returned (.int .i64 (max a b)) ∧ Below w.heap.size w w' := by
  go_enter Try.func38, Try.ntmps38
  go_wp2_with fail
  refine (pickMax_any a b (w.heap.size + 1) _ _ ⟨by simp, _, _, rfl, by simp, by simp [maxLen], fun _ => ⟨w.heap.size, 0, rfl, by omega, fun j u hu => ?_⟩⟩).mono ?_
  · match j, hu with
    | 0, hu => simp at hu; subst hu; simp [go_sem]
  · rintro e w2 ⟨rfl, rfl⟩
    go_wp2
    go_ret
    exact ⟨rfl, (by repeat (first | exact Below.refl _ _ | assumption | refine Below.alloc ?_ (by first | omega | (simp <;> omega)) _ | refine Below.setCell ?_ (by first | omega | (simp <;> omega)) _ | refine Below.drew ?_ | refine below_drewN ?_ _))⟩

theorem lastIdx_bd (s : ByteArray) (c : Int) (k : Nat) : -1 ≤ Lib.lastIdx s c k ∧ Lib.lastIdx s c k < k := by
  rcases Lib.lastIdx_spec s c k with ⟨e, _⟩ | ⟨i, hi, e, _⟩ <;> rw [e] <;> omega

set_option maxHeartbeats 400000 in
theorem implParentPath_any (s : ByteArray) (w : World) (hs : s.size ≤ 1048576) :
    Calls Try.prog 22 #[.string s] w fun e w' => e = .returned (.string (parentOf s)) ∧ Below w.heap.size w w' := by
  obtain ⟨r, hr⟩ : ∃ r, r = Lib.lastIndexByte s 47 := ⟨_, rfl⟩
  have hbd : -1 ≤ r ∧ r < s.size := by rw [hr]; exact lastIdx_bd s 47 s.size
  obtain ⟨k, hk⟩ : ∃ k : Nat, max 0 r = k := ⟨(max 0 r).toNat, by omega⟩
  have hks : k ≤ s.size := by omega
  have HX := Lib.hid (show parentOf s = s.extract 0 k by rw [parentOf, ← hr]; congr 1; omega)
  have HR := Lib.hid hr
  have HK := Lib.hid hk
  clear hk hr hbd
  go_enter Try.func22, Try.ntmps22
  go_wp2_with fail
  refine (Try.strings_LastIndexByte _ _ (by omega) _).mono ?_
  rintro e w' ⟨rfl, rfl⟩
  rw [← HR.out]
  go_wp2_with fail
  refine (implMax_any _ _ _).mono ?_
  rintro e w2 ⟨rfl, hb⟩
  rw [HK.out]
  go_wp2
  go_ret
  exact ⟨ret_str HX.out.symm, hb⟩
end Go.Proofs.Ytglminmoglncpaa
namespace Go.Proofs.Ytglminmoglncpaa.FnExactParentPath
open Go.RowKit
end Go.Proofs.Ytglminmoglncpaa.FnExactParentPath
