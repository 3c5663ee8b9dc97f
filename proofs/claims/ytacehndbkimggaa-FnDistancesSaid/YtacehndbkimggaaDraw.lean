/- Drawn numbers: spec.l25Draw, impl.numbersFrom and the closure it hands back. Conditions: the variable's cell is there and not frozen. -/
import Derived.Test.YtacehndbkimggaaNum
import Derived.WalkSpells
import Derived.WalkLawsBesides
namespace Go.Proofs.Ytacehndbkimggaa
open Go.RowKit
theorem l25Draw_any (b off : Nat) (s : Int) (w : World) (hc : w.cell? ⟨b, off, none⟩ = some (.int .i64 s)) (hf : w.frozen? ⟨b, off, none⟩ = false) :
    Calls Try.prog 38 #[.pointer (some ⟨b, off, none⟩)] w fun e w' => e = .returned (.int .i64 (nextNo s)) ∧ w' = w.setCell ⟨b, off, none⟩ (.int .i64 (nextNo s)) := by
  go_enter Try.func38, Try.ntmps38
  go_wp2_with (go_at_call 48; refine (specNextNumber_any _ _).mono ?_; rintro e w' ⟨rfl, rfl⟩)
  go_ret
  exact ⟨rfl, rfl⟩
theorem draw1_any (n s : Int) (b : Nat) (w : World) (hn : 0 < n) (hn2 : n ≤ 9223372036854775807) (hc : w.cell? ⟨b, 0, none⟩ = some (.int .i64 s)) (hf : w.frozen? ⟨b, 0, none⟩ = false) :
    Calls Try.prog 49 #[.int .i64 n, .pointer (some ⟨b, 0, none⟩)] w fun e w' => e = .returned (.int .i64 (nextNo s % n)) ∧ w' = w.setCell ⟨b, 0, none⟩ (.int .i64 (nextNo s)) := by
  have hb := nextNo_bd s
  have hb0 : 0 ≤ nextNo s := by omega
  have hz : (n == 0) = false := by rw [beq_eq_false_iff_ne]; omega
  have hm : (nextNo s).tmod n = nextNo s % n := Int.tmod_eq_emod_of_nonneg hb0
  go_enter Try.func49, Try.ntmps49
  go_wp2_with (go_at_call 50; refine (implNextNumber_any _ _).mono ?_; rintro e w' ⟨rfl, rfl⟩)
  go_ret
  exact ⟨rfl, rfl⟩
theorem numbersFrom_any (s : Int) (w : World) :
    Calls Try.prog 39 #[.int .i64 s] w fun e w' => e = .returned (.func (.func 49) #[] #[.pointer (some ⟨w.heap.size, 0, none⟩)]) ∧ w' = w.alloc (.cells #[.int .i64 s] 3) := by
  have hmf : ∀ (fn : Fn) (first cap : Array Value) (w : World), (Instr.makeFunc fn first cap).run Try.prog w = .ok (.func fn first cap) w := fun _ _ _ _ => rfl
  go_enter Try.func39, Try.ntmps39
  go_wp2
  go_ret
  exact ⟨rfl, rfl⟩
end Go.Proofs.Ytacehndbkimggaa
