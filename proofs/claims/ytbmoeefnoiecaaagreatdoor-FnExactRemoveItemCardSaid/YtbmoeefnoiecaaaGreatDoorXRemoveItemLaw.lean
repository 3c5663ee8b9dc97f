/- FnExactRemoveItem returns true for all arguments. No condition. -/
import Derived.Test.YtbmoeefnoiecaaaGreatDoorXRemoveItem
import Derived.Test.YtbmoeefnoiecaaaGreatDoorTie
import Derived.Test.YtbmoeefnoiecaaaGreatDoorCards
import Derived.SevenTiedAt
namespace Go.Proofs.YtbmoeefnoiecaaaGreatDoor.FnExactRemoveItem
open Go.ChangeShapes Go.WideShapes Go.ChangeAt Go.RowKit Go.Joins
open Go.ChangeMaps (open_string)
set_option maxRecDepth 100000 in
theorem li (os : Os) (st : os.Started) (H : Type) (enc : TypeId × Value → H) :
  ReturnsInHanded {} Tryz.checked os 6 .any (fun w a => (Rows.fnExactRemoveItemSpec.pre enc Tryz.prog Tryz.f6 Rows.fnExactRemoveItemRow.domain false w a ∧ laidMetH Tryz.prog laid3 w) ∧ sizedMet enc Tryz.prog Tryz.f6 (OpenSpec.ofChange Rows.fnExactRemoveItemSpec) false w a) (Rows.fnExactRemoveItemSpec.post enc Tryz.prog Tryz.f6 false true false false) := by
 refine liftD os st H enc (by kernel_rfl) Tryz.func6
  (ChangeSpec.witness_shaped (enc := enc) (C := Tryz.checked) (os := os) (X := fun w _ => laidMetH Tryz.prog laid3 w) false (World.doorLaid Tryz.prog 400 os) #[.agg #[.slice none 0 0], .agg #[.int .i64 0, .slice none 0 0, .slice none 0 0], .string ByteArray.empty, .int .i64 0] 8 rfl (World.shaped_of_RefB (by kernel_rfl) (by kernel_rfl)) (by kernel_rfl) (by kernel_rfl) (by kernel_rfl) (door_met os _))
  rfl rfl (by kernel_rfl) ?_ ?_
 ·intro vs W ds p hA
  rw [Tryz.params6] at hA
  obtain ⟨v0, s0, d0, y0, p0, q0, rfl, rfl, rfl, h0, r0⟩ := trodAll_cons hA
  obtain ⟨v1, s1, d1, y1, p1, q1, rfl, rfl, rfl, h1, r1⟩ := trodAll_cons r0
  obtain ⟨v2, s2, d2, y2, p2, q2, rfl, rfl, rfl, h2, r2⟩ := trodAll_cons r1
  obtain ⟨v3, s3, d3, y3, p3, q3, rfl, rfl, rfl, h3, r3⟩ := trodAll_cons r2
  obtain ⟨rfl, rfl, rfl⟩ := trodAll_nil r3
  rfl
 ·intro W bs a ds p hv hA ht
  rw [Tryz.params6] at hA hv
  obtain ⟨v0, s0, d0, y0, p0, q0, k, rfl, rfl, h0, r0⟩ := trodAll_cons hA
  obtain ⟨v1, s1, d1, y1, p1, q1, rfl, rfl, rfl, h1, r1⟩ := trodAll_cons r0
  obtain ⟨v2, s2, d2, y2, p2, q2, rfl, rfl, rfl, h2, r2⟩ := trodAll_cons r1
  obtain ⟨v3, s3, d3, y3, p3, q3, rfl, rfl, rfl, h3, r3⟩ := trodAll_cons r2
  obtain ⟨rfl, rfl, rfl⟩ := trodAll_nil r3
  obtain rfl : a = #[v0, v1, v2, v3] := by cases a; simp_all
  obtain ⟨cs0, rfl, z0⟩ := okWide_struct Tryz.underlying24 (hv 0 24 v0 rfl rfl)
  obtain ⟨u0, hf0⟩ := h0
  simp only [Value.cells] at hf0
  obtain ⟨x0, l0, hc0, w0, b0⟩ := trod_desc hf0
  obtain rfl : cs0 = #[x0] := by rw [show #[x0] = [x0].toArray from rfl, ← hc0]
  obtain ⟨cs1, rfl, z1⟩ := okWide_struct Tryz.underlying28 (hv 1 28 v1 rfl rfl)
  obtain ⟨u1, hf1⟩ := h1
  simp only [Value.cells] at hf1
  obtain ⟨e1, he1, b1⟩ := trod_val _ _ _ hf1
  obtain rfl : cs1 = (vmCells e1).toArray := by rw [← he1]
  obtain ⟨a2, rfl, rfl, rfl, w2⟩ := open_string Tryz.underlying9 (hv 2 9 v2 rfl rfl) h2
  obtain ⟨a3, rfl, rfl, rfl, w3⟩ := open_int Tryz.underlying3 (hv 3 3 v3 rfl rfl) h3
  exact walk x0 l0 e1 a2 a3 W w0 b0 b1.1 b1.2 w2 (wf_i64_bd w3) ht
theorem rh : Rows.FnExactRemoveItemSaid :=
 OpenClaim.holds_of_wide 6 Tryz.f6 rfl rfl rfl rfl rfl rfl rfl ⟨rfl, rfl, rfl, rfl, rfl⟩ rfl rfl rfl rfl rfl (by kernel_rfl) Tryz.func6 (by kernel_rfl)
  (of_decide_eq_true (by kernel_rfl)) (by unfold Func.isWrapper; first | (rw [if_pos (by decide +kernel)]; kernel_rfl) | (rw [if_neg (by decide +kernel)]; exact ⟨rfl, rfl⟩))
  (fun os st H enc _ => li os st H enc)
theorem holds : Rows.FnExactRemoveItemCardSaid :=
 Claim7.holds_tied_plain_at .later [] [.data, .data, .data] true (true, "6200cdf5cf01aa5626a4a5757c541ded527ec874d96f12e3cc6bdd12ff46b75f") false
  rh (fun _ h => by cases h) (by kernel_rfl) (fun _ h => by cases h) fnExactRemoveItem_row_tie rfl ⟨rfl, rfl⟩ (by kernel_rfl) rfl
  (fun f fn hf hn => by
    obtain rfl : f = 6 := Option.some.inj ((show Tryz.prog.funcNamed "loop.example/g00518/laws.FnExactRemoveItem" = some 6 by kernel_rfl).symm.trans hf) |>.symm
    obtain rfl : fn = Tryz.f6 := (Option.some.inj (Tryz.func6.symm.trans hn)).symm
    exact ⟨by kernel_rfl, fun j t ht => by
     rw [Tryz.params6] at ht
     have hm : t ∈ [24, 28, 9, 3] := by simpa using Array.mem_of_getElem? ht
     have ha : ([24, 28, 9, 3].all fun u => !Tryz.prog.wantsStandIn u) = true := by kernel_rfl
     exact (show Tryz.prog.wantsStandIn t = false by simpa using List.all_eq_true.1 ha t hm)⟩)
  (by kernel_rfl)
end Go.Proofs.YtbmoeefnoiecaaaGreatDoor.FnExactRemoveItem
