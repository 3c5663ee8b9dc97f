/- The plain law of FollowStep: the first item whose step is the text, and how it is found kind by kind. No condition but the sizes. -/
import Derived.Test.YtkfmdkogifmfmaaDoorStepW
import Derived.Test.YtkfmdkogifmfmaaDoorIsStep
namespace Go.Proofs.YtkfmdkogifmfmaaDoor
set_option linter.unusedSimpArgs false
set_option linter.unusedVariables false
open Go.RowKit
/-- The first number below n at which p holds, or -1. -/
def firstTo (p : Nat → Bool) : Nat → Int
  | 0 => -1
  | k + 1 => if 0 ≤ firstTo p k then firstTo p k else if p k then k else -1
theorem firstTo_no {p : Nat → Bool} : ∀ {n : Nat}, (∀ k, k < n → p k = false) → firstTo p n = -1
  | 0, _ => rfl
  | n + 1, h => by
    rw [firstTo, firstTo_no (n := n) fun k hk => h k (by omega), if_neg (by omega), h n (by omega)]; rfl
theorem firstTo_at {p : Nat → Bool} : ∀ {n k : Nat}, k < n → p k = true → (∀ j, j < k → p j = false) → firstTo p n = k
  | 0, k, h, _, _ => by omega
  | n + 1, k, h, hp, hj => by
    rw [firstTo]
    by_cases e : k = n
    · subst e
      rw [firstTo_no hj, if_neg (by omega), if_pos hp]
    · rw [firstTo_at (n := n) (by omega) hp hj, if_pos (by omega)]
/-- The step t is there and is the text s. -/
def hitT (t s : ByteArray) : Bool := !t.toList.isEmpty && t.toList == s.toList
theorem hitT_iff {t s : ByteArray} : hitT t s = true ↔ t.data.toList ≠ [] ∧ t.data.toList = s.data.toList := by
  unfold hitT
  rw [Lib.toList_data, Lib.toList_data, Bool.and_eq_true, beq_iff_eq, Bool.not_eq_true', List.isEmpty_eq_false_iff]
theorem hitT_no {t s : ByteArray} (h : t.data.toList = [] ∨ t.data.toList ≠ s.data.toList) : hitT t s = false := by
  cases hx : hitT t s
  · rfl
  · obtain ⟨a, b⟩ := hitT_iff.1 hx
    rcases h with h | h
    · exact absurd h a
    · exact absurd b h
def folR (r : RuleD) (m : Nat) (s : ByteArray) : Int := firstTo (fun i => hitT (stepR r i) s) m
/-- The item to which a step leads, of a value with m items. -/
def followOf (D : List RuleD) (rule : Int) (m : Nat) (s : ByteArray) : Int :=
  if knownD D rule then (match ruleAt D rule with | none => -1 | some r => folR r m s) else -1
theorem followOf_no {D : List RuleD} {rule : Int} {m : Nat} {s : ByteArray} (h : knownD D rule = false) : followOf D rule m s = -1 := by
  unfold followOf; rw [h]; rfl
theorem followOf_at {D : List RuleD} {rule : Int} (h : knownD D rule = true) : ∃ (k : Nat) (hk : k < D.length), rule = k ∧ ∀ m s, followOf D rule m s = folR D[k] m s := by
  obtain ⟨h0, h1⟩ := knownD_at h
  obtain ⟨k, hk, e, hat⟩ := ruleAt_some h0 h1
  refine ⟨k, hk, e, fun m s => ?_⟩
  unfold followOf
  rw [if_pos h, hat]
theorem folR_bd (r : RuleD) (m : Nat) (s : ByteArray) : folR r m s = -1 ∨ ∃ k : Nat, k < m ∧ folR r m s = k := by
  unfold folR
  induction m with
  | zero => exact .inl rfl
  | succ m ih =>
    rw [firstTo]
    rcases ih with e | ⟨k, hk, e⟩
    · rw [e, if_neg (by omega)]
      split
      · exact .inr ⟨m, by omega, rfl⟩
      · exact .inl rfl
    · rw [e, if_pos (by omega)]
      exact .inr ⟨k, by omega, rfl⟩
theorem isNum_fmtI (n : Nat) (h : n ≤ 1000000000000) : isNum (fmtI n) = true ∧ valD (fmtI n) = n := by
  by_cases h0 : n = 0
  · subst h0
    decide
  · have e : fmtI (n : Nat) = digs n := by unfold fmtI; rw [if_neg (by omega), if_neg (by omega), Int.natAbs_natCast]
    rw [e]
    have hv := valD_digs n
    refine ⟨?_, hv⟩
    have hl := digs_length n 13 (by omega)
    obtain ⟨c, l, hd, _⟩ := digs_head n h0
    rw [isNum_fmt (digs n) (by simp only [allDig, List.all_eq_true]; exact digs_all n) (by rw [hd]; simp) hl (by rw [hv]; exact h), hv, e]
    exact decide_eq_true rfl
theorem str_inj (l : List UInt8) : (str l).data.toList = l := str_data l
/-- An array: the text is no number. -/
theorem fol_5_no {r : RuleD} {m : Nat} {s : ByteArray} (h : r.kind = 5) (hm : m ≤ 1048576) (hn : isNum s.data.toList = false) : folR r m s = -1 := by
  refine firstTo_no fun k hk => ?_
  rw [stepR_5 h]
  refine hitT_no (.inr fun e => ?_)
  rw [str_data] at e
  rw [← e, (isNum_fmtI k (by omega)).1] at hn
  cases hn
theorem fol_5_ge {r : RuleD} {m : Nat} {s : ByteArray} (h : r.kind = 5) (hm : m ≤ 1048576) (hn : m ≤ valD s.data.toList) : folR r m s = -1 := by
  refine firstTo_no fun k hk => ?_
  rw [stepR_5 h]
  refine hitT_no (.inr fun e => ?_)
  rw [str_data] at e
  have := (isNum_fmtI k (by omega)).2
  rw [e] at this
  omega
theorem fol_5_at {r : RuleD} {m : Nat} {s : ByteArray} (h : r.kind = 5) (hm : m ≤ 1048576) (hi : isNum s.data.toList = true) (hn : valD s.data.toList < m) : folR r m s = (valD s.data.toList : Nat) := by
  refine firstTo_at hn ?_ fun k hk => ?_
  · rw [stepR_5 h]
    refine hitT_iff.2 ?_
    rw [str_data, (isNum_text _ hi).1]
    refine ⟨fun e => ?_, rfl⟩
    rw [e] at hi
    exact absurd hi (by decide)
  · rw [stepR_5 h]
    refine hitT_no (.inr fun e => ?_)
    rw [str_data] at e
    have := (isNum_fmtI k (by omega)).2
    rw [e] at this
    omega
/-- The number of the first text that is s, or -1. -/
def idxT (l : List ByteArray) (s : ByteArray) : Int := firstTo (fun k => match l[k]? with | none => false | some t => t.toList == s.toList) l.length
theorem stepR_6' {r : RuleD} {k : Nat} (h : r.kind = 6) (hk : r.names.length ≤ k) : (stepR r k).data.toList = [] := by
  unfold stepR
  rw [if_neg (by omega), if_neg (by omega)]
  split
  · rfl
  · rw [if_neg (by omega), if_neg (by omega), if_neg (by omega)]
theorem stepR_0' {r : RuleD} {k : Nat} (h5 : r.kind ≠ 5) (h6 : r.kind ≠ 6) (hk : 0 < k) : (stepR r k).data.toList = [] := by
  unfold stepR
  rw [if_neg h5, if_neg (by omega), if_pos (by omega)]
theorem fol_empty {r : RuleD} {m : Nat} {s : ByteArray} (h : s.data.toList = []) : folR r m s = -1 :=
  firstTo_no fun k _ => by
    by_cases e : (stepR r k).data.toList = []
    · exact hitT_no (.inl e)
    · exact hitT_no (.inr (by rw [h]; exact e))
/-- A sequence: the texts below j are others; at j there is none, or the value ends. -/
theorem fol_6_no {r : RuleD} {m : Nat} {s : ByteArray} (h : r.kind = 6) (hn : ∀ k (hk : k < r.names.length), k < m → r.names[k].data.toList ≠ s.data.toList) : folR r m s = -1 := by
  refine firstTo_no fun k hk => ?_
  by_cases hl : k < r.names.length
  · rw [stepR_6 h hl]
    exact hitT_no (.inr (hn k hl hk))
  · exact hitT_no (.inl (stepR_6' h (by omega)))
theorem fol_6_at {r : RuleD} {m j : Nat} {s : ByteArray} (h : r.kind = 6) (hj : j < r.names.length) (hm : j < m) (he : r.names[j].data.toList = s.data.toList) (hs : s.data.toList ≠ [])
    (hn : ∀ k (hk : k < j), (r.names[k]'(by omega)).data.toList ≠ s.data.toList) : folR r m s = j := by
  refine firstTo_at hm ?_ fun k hk => ?_
  · rw [stepR_6 h hj]
    exact hitT_iff.2 ⟨by rw [he]; exact hs, he⟩
  · rw [stepR_6 h (by omega)]
    exact hitT_no (.inr (hn k hk))
theorem fol_0_m {r : RuleD} {s : ByteArray} : folR r 0 s = -1 := rfl
theorem fol_0_no {r : RuleD} {m : Nat} {s : ByteArray} (h5 : r.kind ≠ 5) (h6 : r.kind ≠ 6) (h : (stepR r 0).data.toList ≠ s.data.toList) : folR r m s = -1 := by
  refine firstTo_no fun k hk => ?_
  by_cases hz : k = 0
  · subst hz; exact hitT_no (.inr h)
  · exact hitT_no (.inl (stepR_0' h5 h6 (by omega)))
theorem fol_0_at {r : RuleD} {m : Nat} {s : ByteArray} (hm : 0 < m) (h : (stepR r 0).data.toList = s.data.toList) (hs : s.data.toList ≠ []) : folR r m s = 0 :=
  firstTo_at hm (hitT_iff.2 ⟨by rw [show ((0 : Nat) : Int) = 0 from rfl, h]; exact hs, by rw [show ((0 : Nat) : Int) = 0 from rfl, h]⟩) fun j hj => absurd hj (Nat.not_lt_zero j)
theorem nilB (l : List UInt8) : (l == []) = l.isEmpty := by cases l <;> rfl
theorem eqT_true {t s : ByteArray} (h : t.data.toList = s.data.toList) : (t.toList == s.toList) = true := by rw [Lib.toList_data, Lib.toList_data, h]; simp
theorem eqT_false {t s : ByteArray} (h : t.data.toList ≠ s.data.toList) : (t.toList == s.toList) = false := by rw [Lib.toList_data, Lib.toList_data]; exact beq_eq_false_iff_ne.2 h
end Go.Proofs.YtkfmdkogifmfmaaDoor
