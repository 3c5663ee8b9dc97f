/- FnExactLeafEntries returns true for all arguments. No condition. -/
import Derived.Test.YtnbemdcdokhknaaLeafEntries
import Derived.Test.YtnbemdcdokhknaaLift
import Derived.Test.YtnbemdcdokhknaaOpen
import Derived.Test.YtnbemdcdokhknaaDesc
import Derived.Test.YtnbemdcdokhknaaOpenEntry
import Derived.Lib.SmallJoins
namespace Go.Proofs.Ytnbemdcdokhknaa.FnExactLeafEntries
set_option linter.unusedSimpArgs false
set_option linter.unusedVariables false
open Go.ChangeShapes Go.WideShapes Go.ChangeAt Go.RowKit Go.Joins
open Go.ChangeMaps (open_string shut_string)

set_option maxRecDepth 100000 in
theorem lifted (os : Os) (started : os.Started) (H : Type) (enc : TypeId × Value → H) :
    ReturnsInHanded {} Try.checked os 3 .any (Rows.fnExactLeafEntriesSpec.pre6 enc Try.prog Try.f3 Rows.fnExactLeafEntriesRow.domain false) (Rows.fnExactLeafEntriesSpec.post enc Try.prog Try.f3 false true false false) := by
  refine lift os started H enc (by kernel_rfl) Try.func3
    (ChangeSpec.witness6 (enc := enc) (C := Try.checked) false ⟨#[], #[.agg #[.slice none 0 0], .slice none 0 0], []⟩ 8 (by kernel_rfl) (by kernel_rfl) (by kernel_rfl) (by kernel_rfl))
    rfl rfl (by kernel_rfl) ?_ ?_
  · intro vs W ds p hA
    rw [Try.params3] at hA
    obtain ⟨v0, vs0, d0, ds0, p0, q0, rfl, rfl, rfl, h0, r0⟩ := trodAll_cons hA
    obtain ⟨v1, vs1, d1, ds1, p1, q1, rfl, rfl, rfl, h1, r1⟩ := trodAll_cons r0
    obtain ⟨rfl, rfl, rfl⟩ := trodAll_nil r1
    rfl
  · intro W base args ds p hval hA
    rw [Try.params3] at hA hval
    obtain ⟨v0, vs0, d0, ds0, p0, q0, hargs, rfl, rfl, h0, r0⟩ := trodAll_cons hA
    obtain ⟨v1, vs1, d1, ds1, p1, q1, rfl, rfl, rfl, h1, r1⟩ := trodAll_cons r0
    obtain ⟨rfl, rfl, rfl⟩ := trodAll_nil r1
    obtain rfl : args = #[v0, v1] := by cases args; simp_all
    obtain ⟨cs0, rfl, hsz0⟩ := okWide_struct Try.underlying24 (hval 0 24 v0 rfl rfl)
    obtain ⟨fuel0, hf0⟩ := h0
    simp only [Value.cells] at hf0
    obtain ⟨x0, l0, hc0, w0, b0⟩ := trod_desc hf0
    obtain rfl : cs0 = #[x0] := by rw [show #[x0] = [x0].toArray from rfl, ← hc0]
    obtain ⟨A1, n1, c1, rfl⟩ := okWide_slice Try.underlying25 (hval 1 25 v1 rfl rfl)
    obtain ⟨fuel1, hf1⟩ := h1
    simp only [Value.cells] at hf1
    obtain ⟨l1, w1, b1⟩ := trod_ents hf1
    exact walk x0 l0 _ l1 W w0 b0 w1 b1

/-- The statement. -/
theorem holds : Rows.FnExactLeafEntriesSaid :=
  OpenClaim.holds_of_wide 3 Try.f3 rfl rfl rfl rfl rfl rfl rfl ⟨rfl, rfl, rfl, rfl, rfl⟩ rfl rfl rfl rfl rfl (by kernel_rfl) Try.func3 (by kernel_rfl)
    (of_decide_eq_true (by kernel_rfl)) (by unfold Func.isWrapper; first | (rw [if_pos (by decide +kernel)]; kernel_rfl) | (rw [if_neg (by decide +kernel)]; exact ⟨rfl, rfl⟩))
    (fun os started H enc _ => lifted os started H enc)
#print axioms holds
end Go.Proofs.Ytnbemdcdokhknaa.FnExactLeafEntries
