/- IsPattern and MatchPath, spec and impl. Condition: the texts have at most 2^20 bytes. -/
import Derived.Test.YtglminmoglncpaaStepsS
import Derived.Test.YtglminmoglncpaaSplitI
import Derived.Test.YtglminmoglncpaaSplitS
import Derived.Test.YtglminmoglncpaaMatchS
import Derived.Test.YtglminmoglncpaaMatchI
namespace Go.Proofs.Ytglminmoglncpaa
open Go.RowKit
set_option maxHeartbeats 400000 in
theorem specIsPattern_any (s : ByteArray) (w : World) (hs : s.size ≤ 2097152) :
    Calls Try.prog 13 #[.string s] w fun e w' => e = .returned (.bool (spOk isPat s)) ∧ Below w.heap.size w w' := by
  go_enter Try.func13, Try.ntmps13
  go_wp2_with fail
  refine (specSteps_any s w hs).mono ?_
  rintro e w1 ⟨v, rfl, hr, hb⟩
  have H := Lib.hid hb
  clear hb hr
  go_wp2
  go_ret
  exact ⟨rfl, H.out⟩
set_option maxHeartbeats 400000 in
theorem implIsPattern_any (s : ByteArray) (w : World) (hs : s.size ≤ 2097152) :
    Calls Try.prog 14 #[.string s] w fun e w' => e = .returned (.bool (spOk isPat s)) ∧ Below w.heap.size w w' := by
  go_enter Try.func14, Try.ntmps14
  go_wp2_with fail
  refine (splitPattern_any s w hs).mono ?_
  rintro e w1 ⟨v, rfl, hr, hb⟩
  have H := Lib.hid hb
  clear hb hr
  go_wp2
  go_ret
  exact ⟨rfl, H.out⟩
theorem patL_ok (s : ByteArray) (h : spOk isPat s = true) : patL s = spL isPat s := by
  unfold patL spL
  by_cases hz : s.size = 0
  · simp [hz]
  · have h2 : (tailT s).all isPat = true := by
      unfold spOk at h
      simp only [Bool.or_eq_true, Bool.and_eq_true, beq_iff_eq, hz, false_or] at h
      exact h.2
    rw [if_pos ⟨hz, h2⟩, if_pos ⟨hz, h⟩]
theorem spL_sizes (isS : ByteArray → Bool) (s : ByteArray) : ∀ p ∈ spL isS s, p.size ≤ s.size := by
  intro p hp
  unfold spL at hp
  split at hp
  · exact splitT_sizes s 47 p (List.mem_of_mem_tail hp)
  · simp at hp
/-- Whether a path fits a pattern. -/
def mPath (a b : ByteArray) : Bool := spOk isPat a && (spOk isStep b && reach (spL isPat a) (spL isStep b) (spL isPat a).length (spL isStep b).length)
set_option maxHeartbeats 1000000 in
theorem specMatchPath_any (a b : ByteArray) (w : World) (ha : a.size ≤ 1048576) (hb : b.size ≤ 1048576) :
    Calls Try.prog 15 #[.string a, .string b] w fun e w' => e = .returned (.bool (mPath a b)) ∧ Below w.heap.size w w' := by
  have hla := spL_len isPat a
  have hlb := spL_len isStep b
  have hsb := spL_sizes isStep b
  cases h1 : spOk isPat a
  · have H := Lib.hid (show mPath a b = false by rw [mPath, h1]; rfl)
    have H1 := Lib.hid h1
    clear h1
    go_enter Try.func15, Try.ntmps15
    go_wp2_with fail
    refine (specSteps_any a w (by omega)).mono ?_
    rintro e w1 ⟨v, rfl, hr1, hb1⟩
    rw [H1.out]
    clear hr1
    go_wp2_with fail
    refine (specSplitPath_any b w1 (by omega)).mono ?_
    rintro e w2 ⟨u, rfl, hr2, hb2⟩
    have HB := Lib.hid (below_step hb2 hb1)
    clear hr2 hb1 hb2 hla hlb hsb
    go_wp2
    go_ret
    exact ⟨ret_bool H.out.symm, HB.out⟩
  · cases h2 : spOk isStep b
    · have H := Lib.hid (show mPath a b = false by rw [mPath, h1, h2]; rfl)
      have H1 := Lib.hid h1
      have H2 := Lib.hid h2
      clear h1 h2
      go_enter Try.func15, Try.ntmps15
      go_wp2_with fail
      refine (specSteps_any a w (by omega)).mono ?_
      rintro e w1 ⟨v, rfl, hr1, hb1⟩
      rw [H1.out]
      clear hr1
      go_wp2_with fail
      refine (specSplitPath_any b w1 (by omega)).mono ?_
      rintro e w2 ⟨u, rfl, hr2, hb2⟩
      rw [H2.out]
      have HB := Lib.hid (below_step hb2 hb1)
      clear hr2 hb1 hb2 hla hlb hsb
      go_wp2
      go_ret
      exact ⟨ret_bool H.out.symm, HB.out⟩
    · have H := Lib.hid (show mPath a b = reach (spL isPat a) (spL isStep b) (spL isPat a).length (spL isStep b).length by rw [mPath, h1, h2]; rfl)
      have HP := Lib.hid (patL_ok a h1)
      have H1 := Lib.hid h1
      have H2 := Lib.hid h2
      have HSB := Lib.hid hsb
      clear h1 h2 hsb
      go_enter Try.func15, Try.ntmps15
      go_wp2_with fail
      refine (specSteps_any a w (by omega)).mono ?_
      rintro e w1 ⟨v, rfl, hr1, hb1⟩
      rw [H1.out]
      rw [HP.out] at hr1
      have HR1 := Lib.hid hr1
      clear hr1
      go_wp2_with fail
      refine (specSplitPath_any b w1 (by omega)).mono ?_
      rintro e w2 ⟨u, rfl, hr2, hb2⟩
      rw [H2.out]
      have HR1' := Lib.hid (HR1.out.keep (Out.of_below hb2 w1.heap.size w1.heap.size) (by omega))
      have HR2 := Lib.hid hr2
      have HB := Lib.hid (below_step hb2 hb1)
      clear hr2 hb1 hb2 HR1
      go_wp2_with fail
      refine (specMatch_any v u _ _ _ _ HR1'.out.sl HR2.out.sl (Nat.le_refl _) (by omega) (by omega) (fun x hx => by have := HSB.out x hx; unfold maxLen; omega)).mono ?_
      rintro e w3 ⟨rfl, hb3⟩
      have HB3 := Lib.hid (below_step hb3 HB.out)
      clear hb3
      go_wp2
      go_ret
      exact ⟨ret_bool H.out.symm, HB3.out⟩
set_option maxHeartbeats 1000000 in
theorem implMatchPath_any (a b : ByteArray) (w : World) (ha : a.size ≤ 1048576) (hb : b.size ≤ 1048576) :
    Calls Try.prog 16 #[.string a, .string b] w fun e w' => e = .returned (.bool (mPath a b)) ∧ Below w.heap.size w w' := by
  have hla := spL_len isPat a
  have hlb := spL_len isStep b
  have hsb := spL_sizes isStep b
  cases h1 : spOk isPat a
  · have H := Lib.hid (show mPath a b = false by rw [mPath, h1]; rfl)
    have H1 := Lib.hid h1
    clear h1
    go_enter Try.func16, Try.ntmps16
    go_wp2_with fail
    refine (splitPattern_any a w (by omega)).mono ?_
    rintro e w1 ⟨v, rfl, hr1, hb1⟩
    rw [H1.out]
    clear hr1
    go_wp2_with fail
    refine (implSplitPath_any b w1 (by omega)).mono ?_
    rintro e w2 ⟨u, rfl, hr2, hb2⟩
    have HB := Lib.hid (below_step hb2 hb1)
    clear hr2 hb1 hb2 hla hlb hsb
    go_wp2
    go_ret
    exact ⟨ret_bool H.out.symm, HB.out⟩
  · cases h2 : spOk isStep b
    · have H := Lib.hid (show mPath a b = false by rw [mPath, h1, h2]; rfl)
      have H1 := Lib.hid h1
      have H2 := Lib.hid h2
      clear h1 h2
      go_enter Try.func16, Try.ntmps16
      go_wp2_with fail
      refine (splitPattern_any a w (by omega)).mono ?_
      rintro e w1 ⟨v, rfl, hr1, hb1⟩
      rw [H1.out]
      clear hr1
      go_wp2_with fail
      refine (implSplitPath_any b w1 (by omega)).mono ?_
      rintro e w2 ⟨u, rfl, hr2, hb2⟩
      rw [H2.out]
      have HB := Lib.hid (below_step hb2 hb1)
      clear hr2 hb1 hb2 hla hlb hsb
      go_wp2
      go_ret
      exact ⟨ret_bool H.out.symm, HB.out⟩
    · have H := Lib.hid (show mPath a b = reach (spL isPat a) (spL isStep b) (spL isPat a).length (spL isStep b).length by rw [mPath, h1, h2]; rfl)
      have H1 := Lib.hid h1
      have H2 := Lib.hid h2
      have HSB := Lib.hid hsb
      clear h1 h2 hsb
      go_enter Try.func16, Try.ntmps16
      go_wp2_with fail
      refine (splitPattern_any a w (by omega)).mono ?_
      rintro e w1 ⟨v, rfl, hr1, hb1⟩
      rw [H1.out]
      have HR1 := Lib.hid hr1
      clear hr1
      go_wp2_with fail
      refine (implSplitPath_any b w1 (by omega)).mono ?_
      rintro e w2 ⟨u, rfl, hr2, hb2⟩
      rw [H2.out]
      have HR1' := Lib.hid (own_below HR1.out hb2 (Nat.le_refl _))
      have HR2 := Lib.hid hr2
      have HB := Lib.hid (below_step hb2 hb1)
      clear hr2 hb1 hb2 HR1
      go_wp2_with fail
      refine (implMatch_any v u _ _ _ _ (own_strs HR1'.out) (own_strs HR2.out) (Nat.le_refl _) (by omega) (by omega) (fun x hx => by have := HSB.out x hx; unfold maxLen; omega)).mono ?_
      rintro e w3 ⟨rfl, hb3⟩
      have HB3 := Lib.hid (below_step hb3 HB.out)
      clear hb3
      go_wp2
      go_ret
      exact ⟨ret_bool H.out.symm, HB3.out⟩
end Go.Proofs.Ytglminmoglncpaa
