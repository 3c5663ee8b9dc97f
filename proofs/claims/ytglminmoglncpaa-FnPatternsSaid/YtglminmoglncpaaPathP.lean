/- Plain: a path and its steps. No condition. -/
import Derived.Test.YtglminmoglncpaaSplitP
import Derived.Test.YtglminmoglncpaaStrs
import Derived.Test.YtglminmoglncpaaIsWithin
import Derived.Test.YtglminmoglncpaaParentPath
import Derived.Test.YtglminmoglncpaaIsStep
namespace Go.Proofs.Ytglminmoglncpaa
open Go.RowKit
/-- The letters of a path with these steps. -/
def joinB (l : List ByteArray) : List UInt8 := l.flatMap fun x => 47 :: x.data.toList
theorem joinP_aux (l : List ByteArray) : ∀ s : ByteArray, (l.foldl (fun s x => s ++ slash ++ x) s).data.toList = s.data.toList ++ joinB l := by
  induction l with
  | nil => intro s; simp [joinB]
  | cons x l ih =>
    intro s
    rw [List.foldl_cons, ih]
    simp [joinB, ByteArray.data_append, slash]
theorem joinP_data (l : List ByteArray) : (joinP l).data.toList = joinB l := by
  rw [joinP, joinP_aux]; simp
theorem ba_ext {a b : ByteArray} (h : a.data.toList = b.data.toList) : a = b := by
  apply ByteArray.ext
  exact Array.toList_inj.1 h
/-- The parts, each with the separator behind it. -/
theorem partsTo_join (s : ByteArray) (c : UInt8) (k : Nat) (hk : k ≤ s.size) :
    s.data.toList.take (partsTo s c k).2 = (partsTo s c k).1.flatMap (fun p => p.data.toList ++ [c]) := by
  induction k with
  | zero => simp [partsTo]
  | succ k ih =>
    have ih := ih (by omega)
    have hb := (partsTo_bd s c k).1
    simp only [partsTo]
    split
    · rename_i hc
      have hkl : k < s.data.toList.length := by rw [← Lib.size_eq]; omega
      rw [List.flatMap_append, ← ih]
      simp only [List.flatMap_cons, List.flatMap_nil, List.append_nil]
      have hx : s.data.toList[k] = c := by
        have : s.data[k]? = some s.data.toList[k] := by rw [← Array.getElem?_toList, List.getElem?_eq_getElem hkl]
        rw [this] at hc; exact Option.some.inj hc
      rw [List.take_succ_eq_append_getElem hkl, hx, ← List.append_assoc]
      congr 1
      rw [Lib.extract_data]
      conv => lhs; rw [← List.take_append_drop (partsTo s c k).2 (s.data.toList.take k)]
      rw [List.take_take, Nat.min_eq_left hb, List.drop_take]
    · exact ih
theorem partsTo_none (s : ByteArray) (c : UInt8) (k : Nat) (hk : k ≤ s.size) : ∀ i, (partsTo s c k).2 ≤ i → i < k → s.data[i]? ≠ some c := by
  induction k with
  | zero => intro i _ h; omega
  | succ k ih =>
    intro i h1 h2
    simp only [partsTo] at h1
    split at h1
    · simp only at h1; omega
    · rename_i hc
      by_cases h : i = k
      · subst h; exact hc
      · exact ih (by omega) i h1 (by omega)
theorem flat_shift (c : UInt8) (L : List ByteArray) (z : ByteArray) : ∀ f t, L ++ [z] = f :: t → (L.flatMap fun p => p.data.toList ++ [c]) ++ z.data.toList = f.data.toList ++ (t.flatMap fun p => c :: p.data.toList) := by
  induction L with
  | nil => intro f t h; simp at h; obtain ⟨rfl, rfl⟩ := h; simp
  | cons a L ih =>
    intro f t h
    simp only [List.cons_append, List.cons.injEq] at h
    obtain ⟨rfl, rfl⟩ := h
    obtain ⟨f', t', e⟩ : ∃ f' t', L ++ [z] = f' :: t' := by
      cases L with
      | nil => exact ⟨_, _, rfl⟩
      | cons x y => exact ⟨_, _, rfl⟩
    have := ih f' t' e
    simp only [List.flatMap_cons, List.append_assoc]
    rw [this, e]
    simp
theorem splitT_join (s f : ByteArray) (c : UInt8) (t : List ByteArray) (h : splitT s c = f :: t) : s.data.toList = f.data.toList ++ (t.flatMap fun p => c :: p.data.toList) := by
  have h1 := partsTo_join s c s.size (Nat.le_refl _)
  have hb := (partsTo_bd s c s.size).1
  rw [← flat_shift c _ _ f t (by rw [← h]; rfl), ← h1, Lib.extract_data]
  conv => lhs; rw [← List.take_append_drop (partsTo s c s.size).2 s.data.toList]
  congr 1
  rw [List.take_of_length_le]
  rw [List.length_drop, ← Lib.size_eq]
  omega
/-- The steps of a path give the path again. -/
theorem join_spL (isS : ByteArray → Bool) (s : ByteArray) (h : spOk isS s = true) : joinP (spL isS s) = s := by
  apply ba_ext
  rw [joinP_data]
  unfold spL
  by_cases hz : s.size = 0
  · simp only [hz, ne_eq, not_true_eq_false, false_and, if_false, joinB, List.flatMap_nil]
    exact (List.eq_nil_of_length_eq_zero (by rw [← Lib.size_eq]; exact hz)).symm
  · rw [if_pos ⟨hz, h⟩]
    have h0 : s.data[0]? = some 47 := by
      unfold spOk at h
      simp only [Bool.or_eq_true, Bool.and_eq_true, beq_iff_eq, hz, false_or, decide_eq_true_eq] at h
      exact h.1
    obtain ⟨t, ht, _⟩ := splitT_hit s 47 h0
    have := splitT_join s _ 47 t ht
    rw [tailT, ht, List.tail_cons, this, Lib.extract_data]
    simp [joinB]
/-- The last part holds no separator. -/
theorem splitT_last (s : ByteArray) (c : UInt8) : c ∉ ((splitT s c).getLast?.getD ⟨#[]⟩).data.toList := by
  rw [splitT, List.getLast?_append]
  simp only [List.getLast?_singleton, Option.some_or, Option.getD_some]
  intro h
  rw [Lib.extract_data] at h
  obtain ⟨i, hi, he⟩ := List.mem_iff_getElem.1 h
  have hn := partsTo_none s c s.size (Nat.le_refl _) ((partsTo s c s.size).2 + i) (by omega) (by
    have := hi
    rw [List.length_take, List.length_drop, ← Lib.size_eq] at this
    omega)
  apply hn
  rw [List.getElem_take, List.getElem_drop] at he
  rw [← Array.getElem?_toList]
  exact (List.getElem?_eq_getElem _).trans (congrArg some he)
/-- A path is within the path of its first steps. -/
theorem within_take (l : List ByteArray) (i : Nat) (h : i < l.length) : withinB (joinP l).data.toList (joinP (l.take i)).data.toList = true := by
  unfold withinB
  rw [joinP_data, joinP_data]
  rw [Bool.or_eq_true]
  right
  have hsp : joinB l = joinB (l.take i) ++ 47 :: (l[i].data.toList ++ joinB (l.drop (i + 1))) := by
    have hl : l = l.take i ++ l[i] :: l.drop (i + 1) := by rw [← List.drop_eq_getElem_cons h, List.take_append_drop]
    refine (congrArg joinB hl).trans ?_
    simp only [joinB, List.flatMap_append, List.flatMap_cons, List.cons_append, List.append_assoc]
  rw [hsp]
  show (joinB (l.take i) ++ [47]).isPrefixOf _ = true
  rw [List.isPrefixOf_iff_prefix]
  exact ⟨l[i].data.toList ++ joinB (l.drop (i + 1)), by simp⟩
theorem within_self (s : List UInt8) : withinB s s = true := by simp [withinB]
theorem within_more (s t : List UInt8) : withinB (s ++ 47 :: t) s = true := by
  unfold withinB
  rw [Bool.or_eq_true]
  right
  show (s ++ [47]).isPrefixOf _ = true
  rw [List.isPrefixOf_iff_prefix]
  exact ⟨t, by simp⟩
theorem within_not (s : List UInt8) (x : UInt8) (h : x ≠ 47) : withinB (s ++ [x]) s = false := by
  unfold withinB
  rw [Bool.or_eq_false_iff]
  constructor
  · rw [beq_eq_false_iff_ne]
    intro e
    have := congrArg List.length e
    simp at this
  · show (s ++ [47]).isPrefixOf _ = false
    rw [Bool.eq_false_iff]
    intro e
    rw [List.isPrefixOf_iff_prefix] at e
    obtain ⟨t, ht⟩ := e
    rw [List.append_assoc] at ht
    have := List.append_cancel_left ht
    simp at this
    exact h this.1.symm
theorem at_list (s : ByteArray) (j : Nat) (h : j < s.size) : s.data.toList[j]? = some s.data[j]! := by
  have h' : j < s.data.size := h
  rw [Array.getElem?_toList, Array.getElem?_eq_getElem h', getElem!_pos s.data j h']
theorem parent_join (l : List ByteArray) (x : ByteArray) (hx : 47 ∉ x.data.toList) : parentOf (joinP (l ++ [x])) = joinP l := by
  have hs : (joinP (l ++ [x])).data.toList = joinB l ++ 47 :: x.data.toList := by rw [joinP_data]; simp [joinB]
  generalize joinP (l ++ [x]) = s at hs
  have hsz : s.size = (joinB l).length + 1 + x.data.toList.length := by rw [Lib.size_eq, hs]; simp; omega
  have h47 : s.data[(joinB l).length]! = 47 := by
    have := at_list s (joinB l).length (by omega)
    rw [hs, List.getElem?_append_right (Nat.le_refl _)] at this
    simp at this
    exact this.symm
  have hi : Lib.lastIndexByte s 47 = ((joinB l).length : Int) := by
    unfold Lib.lastIndexByte
    rcases Lib.lastIdx_spec s 47 s.size with ⟨_, hno⟩ | ⟨i, hi, e, hc, hno⟩
    · exact absurd (by rw [h47]; rfl) (hno (joinB l).length (by omega))
    · rw [e]
      by_cases h1 : i < (joinB l).length
      · exact absurd (by rw [h47]; rfl) (hno (joinB l).length h1 (by omega))
      · by_cases h2 : i = (joinB l).length
        · rw [h2]
        · exfalso
          have := at_list s i hi
          rw [hs, List.getElem?_append_right (by omega)] at this
          obtain ⟨j, hj⟩ : ∃ j, i - (joinB l).length = j + 1 := ⟨i - (joinB l).length - 1, by omega⟩
          rw [hj, List.getElem?_cons_succ] at this
          have hm := List.mem_of_getElem? this
          have h7 : s.data[i]! = 47 := UInt8.toNat_inj.1 (by have : (47 : UInt8).toNat = 47 := rfl; omega)
          rw [h7] at hm
          exact hx hm
  apply ba_ext
  rw [parentOf, hi, joinP_data, Lib.extract_data, hs]
  simp
theorem parent_spL (isS : ByteArray → Bool) (s : ByteArray) (h : spOk isS s = true) (hl : 1 ≤ (spL isS s).length) : parentOf s = joinP ((spL isS s).take ((spL isS s).length - 1)) := by
  have hj := join_spL isS s h
  have hlast : 47 ∉ (((spL isS s).getLast?).getD ⟨#[]⟩).data.toList := by
    have hL := splitT_last s 47
    unfold spL at hl ⊢
    split at hl
    · rename_i hc
      rw [if_pos hc]
      unfold tailT at hl ⊢
      cases hs : splitT s 47 with
      | nil => rw [hs] at hl; simp at hl
      | cons f t =>
        rw [hs] at hl hL
        simp only [List.tail_cons] at hl ⊢
        cases t with
        | nil => simp at hl
        | cons a b => rwa [List.getLast?_cons_cons] at hL
    · simp at hl
  generalize spL isS s = L at hj hl hlast
  obtain ⟨l, x, rfl⟩ : ∃ l x, L = l ++ [x] := by
    cases hr : L.reverse with
    | nil => rw [List.reverse_eq_nil_iff] at hr; subst hr; simp at hl
    | cons x l => exact ⟨l.reverse, x, by rw [← List.reverse_reverse L, hr]; simp⟩
  rw [List.getLast?_append] at hlast
  simp only [List.getLast?_singleton, Option.some_or, Option.getD_some] at hlast
  rw [← hj, parent_join l x hlast]
  simp
theorem splitL_sizes (isS : ByteArray → Bool) (s : ByteArray) : ∀ p ∈ spL isS s, p.size ≤ s.size := by
  intro p hp
  unfold spL at hp
  split at hp
  · exact splitT_sizes s 47 p (List.mem_of_mem_tail hp)
  · simp at hp
theorem spL_all (isS : ByteArray → Bool) (s : ByteArray) : ∀ p ∈ spL isS s, isS p = true := by
  intro p hp
  unfold spL at hp
  split at hp
  · rename_i hc
    obtain ⟨hz, h⟩ := hc
    unfold spOk at h
    simp only [Bool.or_eq_true, Bool.and_eq_true, beq_iff_eq, hz, false_or] at h
    exact List.all_eq_true.1 h.2 p hp
  · simp at hp
end Go.Proofs.Ytglminmoglncpaa
