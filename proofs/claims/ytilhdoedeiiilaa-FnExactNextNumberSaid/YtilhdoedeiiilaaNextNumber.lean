/- FnExactNextNumber: the walk of the law. Every seed. -/
import Derived.Test.YtilhdoedeiiilaaNum
namespace Go.Proofs.Ytilhdoedeiiilaa.FnExactNextNumber
open Go.RowKit
theorem walk (s : Int) (w : World) (_h : -9223372036854775808 ≤ s ∧ s ≤ 9223372036854775807) :
    Calls Try.prog 6 #[.int .i64 s] w fun e w' => e = .returned (.bool true) ∧ Below w.heap.size w w' := by
  go_enter Try.func6, Try.ntmps6
  go_wp2_with (first | (go_at_call 23; refine (specNextNumber_any _ _).mono ?_; rintro e w' ⟨rfl, rfl⟩) | (go_at_call 24; refine (implNextNumber_any _ _).mono ?_; rintro e w' ⟨rfl, rfl⟩))
  go_ret
  exact ⟨rfl, Below.refl _ _⟩
end Go.Proofs.Ytilhdoedeiiilaa.FnExactNextNumber
