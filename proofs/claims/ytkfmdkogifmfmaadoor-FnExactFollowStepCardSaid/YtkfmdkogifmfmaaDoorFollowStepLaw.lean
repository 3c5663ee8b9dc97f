/- FnExactFollowStep returns true for all arguments. No condition. -/
import Derived.Test.YtkfmdkogifmfmaaDoorFollowStep
import Derived.Test.YtkfmdkogifmfmaaDoorLift
import Derived.Test.YtkfmdkogifmfmaaDoorOpen
import Derived.Test.YtkfmdkogifmfmaaDoorDesc
import Derived.Test.YtkfmdkogifmfmaaDoorVal
import Derived.Lib.SmallJoins
import Derived.Test.YtkfmdkogifmfmaaDoorLiftD
import Derived.Test.YtkfmdkogifmfmaaDoorTie
import Derived.Test.YtkfmdkogifmfmaaDoorCards
import Derived.SevenTiedAt
namespace Go.Proofs.YtkfmdkogifmfmaaDoor.FnExactFollowStep
set_option linter.unusedSimpArgs false
set_option linter.unusedVariables false
open Go.ChangeShapes Go.WideShapes Go.ChangeAt Go.RowKit Go.Joins
open Go.ChangeMaps (open_string shut_string)

set_option maxRecDepth 100000 in
theorem lifted (os : Os) (started : os.Started) (H : Type) (enc : TypeId × Value → H) :
    ReturnsInHanded {} Tryd.checked os 5 .any (fun w args => (Rows.fnExactFollowStepSpec.pre enc Tryd.prog Tryd.f5 Rows.fnExactFollowStepRow.domain false w args ∧ laidMetH Tryd.prog laid3 w) ∧ sizedMet enc Tryd.prog Tryd.f5 (OpenSpec.ofChange Rows.fnExactFollowStepSpec) false w args) (Rows.fnExactFollowStepSpec.post enc Tryd.prog Tryd.f5 false true false false) := by
  refine liftD os started H enc (by kernel_rfl) Tryd.func5
    (ChangeSpec.witness_shaped (enc := enc) (C := Tryd.checked) (os := os) (X := fun w _ => laidMetH Tryd.prog laid3 w) false (World.doorLaid Tryd.prog 400 os) #[.agg #[.slice none 0 0], .int .i64 0, .agg #[.int .i64 0, .slice none 0 0, .slice none 0 0], .string ByteArray.empty] 8 rfl (World.shaped_of_RefB (by kernel_rfl) (by kernel_rfl)) (by kernel_rfl) (by kernel_rfl) (by kernel_rfl) (door_met os _))
    rfl rfl (by kernel_rfl) ?_ ?_
  · intro vs W ds p hA
    rw [Tryd.params5] at hA
    obtain ⟨v0, vs0, d0, ds0, p0, q0, rfl, rfl, rfl, h0, r0⟩ := trodAll_cons hA
    obtain ⟨v1, vs1, d1, ds1, p1, q1, rfl, rfl, rfl, h1, r1⟩ := trodAll_cons r0
    obtain ⟨v2, vs2, d2, ds2, p2, q2, rfl, rfl, rfl, h2, r2⟩ := trodAll_cons r1
    obtain ⟨v3, vs3, d3, ds3, p3, q3, rfl, rfl, rfl, h3, r3⟩ := trodAll_cons r2
    obtain ⟨rfl, rfl, rfl⟩ := trodAll_nil r3
    rfl
  · intro W base args ds p hval hA htab
    rw [Tryd.params5] at hA hval
    obtain ⟨v0, vs0, d0, ds0, p0, q0, hargs, rfl, rfl, h0, r0⟩ := trodAll_cons hA
    obtain ⟨v1, vs1, d1, ds1, p1, q1, rfl, rfl, rfl, h1, r1⟩ := trodAll_cons r0
    obtain ⟨v2, vs2, d2, ds2, p2, q2, rfl, rfl, rfl, h2, r2⟩ := trodAll_cons r1
    obtain ⟨v3, vs3, d3, ds3, p3, q3, rfl, rfl, rfl, h3, r3⟩ := trodAll_cons r2
    obtain ⟨rfl, rfl, rfl⟩ := trodAll_nil r3
    obtain rfl : args = #[v0, v1, v2, v3] := by cases args; simp_all
    obtain ⟨cs0, rfl, hsz0⟩ := okWide_struct Tryd.underlying24 (hval 0 24 v0 rfl rfl)
    obtain ⟨fuel0, hf0⟩ := h0
    simp only [Value.cells] at hf0
    obtain ⟨x0, l0, hc0, w0, b0⟩ := trod_desc hf0
    obtain rfl : cs0 = #[x0] := by rw [show #[x0] = [x0].toArray from rfl, ← hc0]
    obtain ⟨a1, rfl, rfl, rfl, w1⟩ := open_int Tryd.underlying3 (hval 1 3 v1 rfl rfl) h1
    obtain ⟨cs2, rfl, hsz2⟩ := okWide_struct Tryd.underlying43 (hval 2 43 v2 rfl rfl)
    obtain ⟨fuel2, hf2⟩ := h2
    simp only [Value.cells] at hf2
    obtain ⟨e2, he2, b2⟩ := trod_val _ _ _ hf2
    obtain rfl : cs2 = (vmCells e2).toArray := by rw [← he2]
    obtain ⟨a3, rfl, rfl, rfl, w3⟩ := open_string Tryd.underlying9 (hval 3 9 v3 rfl rfl) h3
    exact walk x0 l0 a1 e2 a3 W w0 b0 (wf_i64_bd w1) b2.1 b2.2 w3 htab

/-- The statement. -/
theorem row_holds : Rows.FnExactFollowStepSaid :=
  OpenClaim.holds_of_wide 5 Tryd.f5 rfl rfl rfl rfl rfl rfl rfl ⟨rfl, rfl, rfl, rfl, rfl⟩ rfl rfl rfl rfl rfl (by kernel_rfl) Tryd.func5 (by kernel_rfl)
    (of_decide_eq_true (by kernel_rfl)) (by unfold Func.isWrapper; first | (rw [if_pos (by decide +kernel)]; kernel_rfl) | (rw [if_neg (by decide +kernel)]; exact ⟨rfl, rfl⟩))
    (fun os started H enc _ => lifted os started H enc)
/-- The card: what the row lists is tied to the program. -/
theorem holds : Rows.FnExactFollowStepCardSaid :=
  Claim7.holds_tied_plain_at .later [] [.data, .data, .data] true (true, "baa743242f9a433d8fd1b05f8042359d6b7e04ebd8349ae6c52d7abe444910dd") false
    row_holds (fun _ h => by cases h) (by kernel_rfl) (fun _ h => by cases h) fnExactFollowStep_row_tie rfl ⟨rfl, rfl⟩ (by kernel_rfl) rfl
    (fun f fn hf hfn => by
      obtain rfl : f = 5 := Option.some.inj ((show Tryd.prog.funcNamed "loop.example/g00518/laws.FnExactFollowStep" = some 5 by kernel_rfl).symm.trans hf) |>.symm
      obtain rfl : fn = Tryd.f5 := (Option.some.inj (Tryd.func5.symm.trans hfn)).symm
      exact ⟨by kernel_rfl, fun j t ht => by
        rw [Tryd.params5] at ht
        have hm : t ∈ [24, 3, 43, 9] := by simpa using Array.mem_of_getElem? ht
        have hall : ([24, 3, 43, 9].all fun u => !Tryd.prog.wantsStandIn u) = true := by kernel_rfl
        exact (show Tryd.prog.wantsStandIn t = false by simpa using List.all_eq_true.1 hall t hm)⟩)
    (by kernel_rfl)
#print axioms holds
end Go.Proofs.YtkfmdkogifmfmaaDoor.FnExactFollowStep
