/- Plain: paths and patterns. No condition. -/
import Derived.Test.YtglminmoglncpaaPathP
import Derived.Test.YtglminmoglncpaaPatSI
import Derived.Test.YtglminmoglncpaaDrawP2
namespace Go.Proofs.Ytglminmoglncpaa
open Go.RowKit
theorem partsTo_extract (s : ByteArray) (c : UInt8) (k : Nat) : ∀ p ∈ (partsTo s c k).1, ∃ a b, p = s.extract a b := by
  induction k with
  | zero => intro p hp; simp [partsTo] at hp
  | succ k ih =>
    intro p hp
    simp only [partsTo] at hp
    split at hp
    · rcases List.mem_append.1 hp with h | h
      · exact ih p h
      · simp only [List.mem_singleton] at h
        exact ⟨_, _, h⟩
    · exact ih p hp
theorem splitT_extract (s : ByteArray) (c : UInt8) : ∀ p ∈ splitT s c, ∃ a b, p = s.extract a b := by
  intro p hp
  rcases List.mem_append.1 hp with h | h
  · exact partsTo_extract s c _ p h
  · simp only [List.mem_singleton] at h
    exact ⟨_, _, h⟩
theorem clean_extract (s : ByteArray) (a b : Nat) (h : clean s = true) : clean (s.extract a b) = true := by
  unfold clean at h ⊢
  rw [Lib.extract_data, List.all_eq_true] at *
  intro x hx
  exact h x (List.mem_of_mem_drop (List.mem_of_mem_take hx))
theorem clean_part (s : ByteArray) (h : clean s = true) : ∀ p ∈ tailT s, clean p = true := by
  intro p hp
  obtain ⟨a, b, rfl⟩ := splitT_extract s 47 p (List.mem_of_mem_tail hp)
  exact clean_extract s a b h
theorem clean_not (p : ByteArray) (h : clean p = true) : (p.toList == [35]) = false ∧ (p.toList == [46, 46]) = false := by
  unfold clean at h
  rw [ByteArray.toList_eq]
  constructor <;>
  · rw [beq_eq_false_iff_ne]
    intro e
    rw [e] at h
    simp at h
theorem isPat_clean (p : ByteArray) (h : clean p = true) : isPat p = isStep p := by
  obtain ⟨h1, h2⟩ := clean_not p h
  unfold isPat
  rw [h1, h2]
  simp
theorem all_pat (s : ByteArray) (h : clean s = true) : (tailT s).all isPat = (tailT s).all isStep := by
  have hc := clean_part s h
  generalize tailT s = t at *
  induction t with
  | nil => rfl
  | cons a t ih =>
    simp only [List.all_cons]
    rw [isPat_clean a (hc a (by simp)), ih (fun p hp => hc p (by simp [hp]))]
theorem spOk_pat (s : ByteArray) (h : clean s = true) : spOk isPat s = spOk isStep s := by
  unfold spOk
  rw [all_pat s h]
theorem spL_pat (s : ByteArray) (h : clean s = true) : spL isPat s = spL isStep s := by
  unfold spL
  rw [spOk_pat s h]
theorem reach_dots (P S : List ByteArray) (hP : ∀ p ∈ P, (p.toList == [46, 46]) = true) : ∀ i, 1 ≤ i → i ≤ P.length → ∀ k, k ≤ S.length → reach P S i k = true := by
  intro i
  induction i with
  | zero => intro h; omega
  | succ i ih =>
    intro _ hi k
    have hd := hP P[i] (List.getElem_mem (by omega))
    induction k with
    | zero =>
      intro _
      rw [reach_one P S i (by omega), if_pos hd]
      by_cases h0 : i = 0
      · subst h0; rw [reach_zero]; rfl
      · exact ih (by omega) (by omega) 0 (by omega)
    | succ k ihk =>
      intro hk
      rw [reach_succ P S i k (by omega) (by omega), if_pos hd, ihk (by omega)]
      simp
theorem reach_self (L : List ByteArray) (hL : ∀ p ∈ L, (p.toList == [46, 46]) = false ∧ (p.toList == [35]) = false) : ∀ i, i ≤ L.length → reach L L i i = true := by
  intro i
  induction i with
  | zero => intro _; rw [reach_zero]; rfl
  | succ i ih =>
    intro hi
    obtain ⟨h1, h2⟩ := hL L[i] (List.getElem_mem (by omega))
    rw [reach_succ L L i i (by omega) (by omega), if_neg (by rw [h1]; decide), ih (by omega)]
    simp [fitB, h2]
theorem mPath_self (s : ByteArray) (hc : clean s = true) (hk : spOk isStep s = true) : mPath s s = true := by
  unfold mPath
  rw [spOk_pat s hc, hk, spL_pat s hc]
  simp only [Bool.true_and]
  refine reach_self _ (fun p hp => ?_) _ (Nat.le_refl _)
  have hcp : clean p = true := by
    unfold spL at hp
    split at hp
    · exact clean_part s hc p hp
    · simp at hp
  exact ⟨(clean_not p hcp).2, (clean_not p hcp).1⟩
theorem mPath_dots (a s : ByteArray) (ha : spOk isPat a = true) (hd : ∀ p ∈ spL isPat a, (p.toList == [46, 46]) = true) (h1 : 1 ≤ (spL isPat a).length) (hk : spOk isStep s = true) : mPath a s = true := by
  unfold mPath
  rw [ha, hk]
  simp only [Bool.true_and]
  exact reach_dots _ _ hd _ h1 (Nat.le_refl _) _ (Nat.le_refl _)
theorem reach_hash (S : List ByteArray) (p : ByteArray) (h1 : (p.toList == [46, 46]) = false) (h2 : (p.toList == [35]) = true) : reach [p] S 1 S.length = (match S with | [x] => isNum x.data.toList | _ => false) := by
  match S with
  | [] => rw [List.length_nil, reach_one [p] [] 0 (by simp)]; simp [h1]
  | [x] =>
    rw [List.length_singleton, reach_succ [p] [x] 0 0 (by simp) (by simp)]
    simp [h1, reach_zero, fitB, h2]
  | x :: y :: t =>
    rw [show (x :: y :: t).length = (t.length + 1) + 1 from rfl, reach_succ [p] (x :: y :: t) 0 (t.length + 1) (by simp) (by simp)]
    simp [h1, reach_zero]
theorem list_first (x : ByteArray) (hz : 0 < x.size) : ∃ t, x.data.toList = x[0] :: t := by
  have h1 : 0 < x.data.toList.length := by rw [← Lib.size_eq]; exact hz
  refine ⟨x.data.toList.tail, ?_⟩
  have h2 : x[0] = x.data.toList[0] := by
    show x.data[0] = _
    rw [Array.getElem_toList]
  rw [h2]
  exact (List.cons_head_tail (List.ne_nil_of_length_pos h1)).symm.trans (by rw [List.head_eq_getElem])
theorem step_sign (x : ByteArray) (c : UInt8) (h : (x.toList == [c]) = true) (hn : isNum [c] = false) (hc : (decide (48 ≤ c.toNat) && decide (c.toNat ≤ 57)) = false) :
    ∃ hz : 0 < x.size, isNum x.data.toList = (decide (48 ≤ x[0].toNat) && decide (x[0].toNat ≤ 57)) := by
  rw [ByteArray.toList_eq, beq_iff_eq] at h
  have hz : 0 < x.size := by rw [Lib.size_eq, h]; exact Nat.succ_pos 0
  refine ⟨hz, ?_⟩
  obtain ⟨t, ht⟩ := list_first x hz
  have he : x[0] = c := by rw [h] at ht; simp at ht; exact ht.1.symm
  rw [h, hn, he, hc]
/-- A step that begins with a digit is a number. -/
theorem step_digit (x : ByteArray) (h : isStep x = true) : ∃ hz : 0 < x.size, isNum x.data.toList = (decide (48 ≤ x[0].toNat) && decide (x[0].toNat ≤ 57)) := by
  unfold isStep at h
  simp only [Bool.or_eq_true] at h
  rcases h with h | h | h | h | h
  · unfold isName at h
    simp only [Bool.and_eq_true, decide_eq_true_eq] at h
    obtain ⟨h1, h2, _⟩ := h
    refine ⟨by omega, ?_⟩
    have h3 : nameAt x 0 = true := by
      cases hq : nameAt x 0 with
      | true => rfl
      | false => rw [nameTo_no x 0 x.size (by omega) hq] at h1; cases h1
    rw [nameAt_eq x 0 (by omega)] at h3
    simp only [isLow, ne_eq, not_true_eq_false, decide_false, Bool.and_false, Bool.or_false, Bool.and_eq_true, decide_eq_true_eq] at h3
    obtain ⟨t, ht⟩ := list_first x (by omega)
    rw [ht]
    have hd : isDig x[0] = false := by
      unfold isDig
      rw [Bool.and_eq_false_iff]; right
      rw [decide_eq_false_iff_not]; omega
    have h9 : decide (x[0].toNat ≤ 57) = false := by rw [decide_eq_false_iff_not]; omega
    rw [h9, Bool.and_false]
    unfold isNum allDig
    simp only [List.all_cons, hd, Bool.false_and, Bool.and_false]
  · exact step_sign x 42 h (by decide) (by decide)
  · exact step_sign x 63 h (by decide) (by decide)
  · exact step_sign x 43 h (by decide) (by decide)
  · have h' := h
    unfold isNum at h'
    simp only [Bool.and_eq_true, decide_eq_true_eq] at h'
    obtain ⟨h1, _, h3, _⟩ := h'
    have hz : 0 < x.size := by rw [Lib.size_eq]; omega
    refine ⟨hz, ?_⟩
    obtain ⟨t, ht⟩ := list_first x hz
    rw [h]
    rw [ht] at h3
    unfold allDig at h3
    simp only [List.all_cons, Bool.and_eq_true] at h3
    have := (isDig_iff _).1 h3.1
    rw [decide_eq_true this.1, decide_eq_true this.2]
    rfl
theorem mPath_hash (a s : ByteArray) (p : ByteArray) (ha : spOk isPat a = true) (hl : spL isPat a = [p]) (h1 : (p.toList == [46, 46]) = false) (h2 : (p.toList == [35]) = true) (hk : spOk isStep s = true) :
    mPath a s = (match spL isStep s with | [x] => isNum x.data.toList | _ => false) := by
  unfold mPath
  rw [ha, hk, hl]
  simp only [Bool.true_and, List.length_singleton]
  exact reach_hash _ p h1 h2
end Go.Proofs.Ytglminmoglncpaa
