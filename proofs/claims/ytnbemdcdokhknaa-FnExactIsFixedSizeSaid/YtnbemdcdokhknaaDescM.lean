/- Plain: what a valid description's rules hold; the least and greatest lengths of its rules. No condition. -/
import Derived.Test.YtnbemdcdokhknaaDescP
namespace Go.Proofs.Ytnbemdcdokhknaa
set_option linter.unusedSimpArgs false
set_option linter.unusedVariables false
open Go.RowKit
instance : Inhabited RuleD := ⟨⟨ByteArray.empty, 0, 0, false, [], [], [], []⟩⟩
/-- What a valid rule number k holds. -/
structure RuleF (D : List RuleD) (k : Nat) (r : RuleD) : Prop where
  kids : ∀ x ∈ r.kids, 0 ≤ x ∧ x < k
  size : 0 ≤ r.size ∧ r.size ≤ 64
  kind : 1 ≤ r.kind ∧ r.kind ≤ 10
  c0 : r.kind = 1 ∨ r.kind = 2 ∨ r.kind = 3 ∨ r.kind = 10 → r.kids.length = 0
  c1 : r.kind = 1 → 1 ≤ r.size ∧ r.size ≤ 4
  c2 : r.kind = 2 → 1 ≤ r.bytes.length ∧ r.bytes.length ≤ 16
  c3 : r.kind = 3 → 1 ≤ r.size
  c4 : r.kind = 4 → r.kids.length = 1 ∧ 0 < limitOf D (kid r 0)
  c5 : r.kind = 5 → r.kids.length = 2 ∧ 0 < limitOf D (kid r 0)
  c6 : r.kind = 6 → r.kids.length = r.names.length ∧ 1 ≤ r.names.length ∧ r.names.length ≤ 8
  c7 : r.kind = 7 → r.kids.length = r.tags.length + 1 ∧ 1 ≤ r.tags.length ∧ r.tags.length ≤ 8
  c8 : r.kind = 8 ∨ r.kind = 9 → r.kids.length = 1
theorem plainR_iff {r : RuleD} {a b c d : Bool} {K : Int} : plainR r a b c d K = true ↔ (a = true ∨ r.size = 0) ∧ (b = true ∨ r.bytes.length = 0) ∧ (c = true ∨ r.names.length = 0) ∧ (d = true ∨ r.tags.length = 0) ∧ (K < 0 ∨ (r.kids.length : Int) = K) := by
  unfold plainR
  simp only [Bool.and_eq_true, Bool.or_eq_true, beq_iff_eq, decide_eq_true_eq]
  have e : ∀ n : Nat, ((n : Int) = 0) = (n = 0) := fun n => by simp
  simp only [e]
theorem ruleOk_facts {D : List RuleD} {k : Nat} {r : RuleD} (h : ruleOk D k r = true) : RuleF D k r := by
  unfold ruleOk at h
  simp only [Bool.and_eq_true] at h
  obtain ⟨-, hk, -, hr, -⟩ := h
  have hkids : ∀ x ∈ r.kids, 0 ≤ x ∧ x < k := by
    intro x hx
    obtain ⟨j, hj, rfl⟩ := List.getElem_of_mem hx
    have := (allTo_iff _ _).1 hk j hj
    rw [kidAt_eq _ _ _ hj] at this
    have := inB_iff.1 this
    omega
  unfold kindR at hr
  by_cases q1 : r.kind = 1
  · rw [if_pos q1] at hr
    simp only [Bool.and_eq_true, plainR_iff] at hr
    have h2 := inB_iff.1 hr.2.1
    have h1 := hr.1
    exact ⟨hkids, by omega, by omega, by omega, by omega, by omega, by omega, by omega, by omega, by omega, by omega, by omega⟩
  rw [if_neg q1] at hr
  by_cases q2 : r.kind = 2
  · rw [if_pos q2] at hr
    simp only [Bool.and_eq_true, plainR_iff] at hr
    have h2 := inB_iff.1 hr.2
    have h1 := hr.1
    simp only [Bool.false_eq_true, false_or] at h1
    exact ⟨hkids, by omega, by omega, by omega, by omega, by omega, by omega, by omega, by omega, by omega, by omega, by omega⟩
  rw [if_neg q2] at hr
  by_cases q3 : r.kind = 3
  · rw [if_pos q3] at hr
    simp only [Bool.and_eq_true, plainR_iff] at hr
    have h2 := inB_iff.1 hr.2
    have h1 := hr.1
    exact ⟨hkids, by omega, by omega, by omega, by omega, by omega, by omega, by omega, by omega, by omega, by omega, by omega⟩
  rw [if_neg q3] at hr
  by_cases q4 : r.kind = 4
  · rw [if_pos q4] at hr
    simp only [Bool.and_eq_true, plainR_iff, decide_eq_true_eq] at hr
    have h2 := hr.2
    have h1 := hr.1
    simp only [Bool.false_eq_true, false_or] at h1
    exact ⟨hkids, by omega, by omega, by omega, by omega, by omega, by omega, fun _ => ⟨by omega, h2⟩, by omega, by omega, by omega, by omega⟩
  rw [if_neg q4] at hr
  by_cases q5 : r.kind = 5
  · rw [if_pos q5] at hr
    simp only [Bool.and_eq_true, plainR_iff, decide_eq_true_eq] at hr
    have h2 := hr.2
    have h1 := hr.1
    simp only [Bool.false_eq_true, false_or] at h1
    exact ⟨hkids, by omega, by omega, by omega, by omega, by omega, by omega, by omega, fun _ => ⟨by omega, h2⟩, by omega, by omega, by omega⟩
  rw [if_neg q5] at hr
  by_cases q6 : r.kind = 6
  · rw [if_pos q6] at hr
    simp only [Bool.and_eq_true, plainR_iff, okNames] at hr
    have h2 := inB_iff.1 hr.2.2
    have h1 := hr.1
    simp only [Bool.false_eq_true, false_or] at h1
    exact ⟨hkids, by omega, by omega, by omega, by omega, by omega, by omega, by omega, by omega, fun _ => by omega, by omega, by omega⟩
  rw [if_neg q6] at hr
  by_cases q7 : r.kind = 7
  · rw [if_pos q7] at hr
    simp only [Bool.and_eq_true, plainR_iff, okTags, beq_iff_eq] at hr
    have h2 := inB_iff.1 hr.2.2.1
    have h3 := hr.2.1
    have h1 := hr.1
    simp only [Bool.false_eq_true, false_or] at h1
    exact ⟨hkids, by omega, by omega, by omega, by omega, by omega, by omega, by omega, by omega, by omega, fun _ => by omega, by omega⟩
  rw [if_neg q7] at hr
  by_cases q8 : r.kind = 8 ∨ r.kind = 9
  · rw [if_pos q8] at hr
    simp only [plainR_iff] at hr
    have h1 := hr
    simp only [Bool.false_eq_true, false_or] at h1
    exact ⟨hkids, by omega, by omega, by omega, by omega, by omega, by omega, by omega, by omega, by omega, by omega, fun _ => by omega⟩
  rw [if_neg q8] at hr
  by_cases q10 : r.kind = 10
  · rw [if_pos q10] at hr
    simp only [Bool.and_eq_true, plainR_iff] at hr
    have h1 := hr.1
    simp only [Bool.false_eq_true, false_or] at h1
    exact ⟨hkids, by omega, by omega, by omega, by omega, by omega, by omega, by omega, by omega, by omega, by omega, by omega⟩
  · rw [if_neg q10] at hr
    cases hr
theorem validD_facts {D : List RuleD} (h : validD D = true) : (1 ≤ D.length ∧ D.length ≤ 24) ∧ ∀ k (hk : k < D.length), RuleF D k D[k] := by
  unfold validD at h
  rw [Bool.and_eq_true] at h
  refine ⟨by have := inB_iff.1 h.2; omega, fun k hk => ?_⟩
  have := (allTo_iff _ _).1 h.1 k hk
  rw [validR_at D k hk] at this
  exact ruleOk_facts this

/-! ### lengths -/
def at0 (o : List Int) (i : Int) : Int := o.getD i.toNat 0
theorem at0_at (o : List Int) (x : Int) (h0 : 0 ≤ x) (h : x.toNat < o.length) : at0 o x = o[x.toNat] := by
  unfold at0; simp [List.getD, List.getElem?_eq_getElem h]
def sumTo (o ks : List Int) : Nat → Int
  | 0 => 0
  | k + 1 => sumTo o ks k + at0 o (ks.getD k 0)
def minTo (o ks : List Int) : Nat → Int
  | 0 => at0 o (ks.getD 1 0)
  | j + 1 => min (minTo o ks j) (at0 o (ks.getD (j + 2) 0))
def maxTo (o ks : List Int) : Nat → Int
  | 0 => at0 o (ks.getD 1 0)
  | j + 1 => max (maxTo o ks j) (at0 o (ks.getD (j + 2) 0))
/-- The greatest of the first alternatives, and 0. -/
def mxTo (o ks : List Int) : Nat → Int
  | 0 => 0
  | j + 1 => max (mxTo o ks j) (at0 o (ks.getD (j + 1) 0))
/-- All between 0 and M. -/
def inM (M : Int) (o : List Int) : Prop := ∀ x ∈ o, 0 ≤ x ∧ x ≤ M
theorem at0_bd {M : Int} {o : List Int} (h : inM M o) (hM : 0 ≤ M) (i : Int) : 0 ≤ at0 o i ∧ at0 o i ≤ M := by
  unfold at0
  rw [List.getD_eq_getElem?_getD]
  cases hx : o[i.toNat]? with
  | none => simp; omega
  | some x => exact h x (List.mem_of_getElem? hx)
theorem sumTo_bd {M : Int} {o : List Int} (h : inM M o) (hM : 0 ≤ M) (ks : List Int) (k : Nat) : 0 ≤ sumTo o ks k ∧ sumTo o ks k ≤ M * k := by
  induction k with
  | zero => simp [sumTo]
  | succ k ih =>
    have := at0_bd h hM (ks.getD k 0)
    rw [sumTo, show M * ((k + 1 : Nat) : Int) = M * k + M by rw [Int.natCast_add, Int.mul_add]; simp]
    omega
theorem minTo_bd {M : Int} {o : List Int} (h : inM M o) (hM : 0 ≤ M) (ks : List Int) (k : Nat) : 0 ≤ minTo o ks k ∧ minTo o ks k ≤ M := by
  induction k with
  | zero => exact at0_bd h hM _
  | succ k ih =>
    have := at0_bd h hM (ks.getD (k + 2) 0)
    rw [minTo]
    omega
theorem maxTo_bd {M : Int} {o : List Int} (h : inM M o) (hM : 0 ≤ M) (ks : List Int) (k : Nat) : 0 ≤ maxTo o ks k ∧ maxTo o ks k ≤ M := by
  induction k with
  | zero => exact at0_bd h hM _
  | succ k ih =>
    have := at0_bd h hM (ks.getD (k + 2) 0)
    rw [maxTo]
    omega
theorem mxTo_bd {M : Int} {o : List Int} (h : inM M o) (hM : 0 ≤ M) (ks : List Int) (k : Nat) : 0 ≤ mxTo o ks k ∧ mxTo o ks k ≤ M := by
  induction k with
  | zero => simp [mxTo, hM]
  | succ k ih =>
    have := at0_bd h hM (ks.getD (k + 1) 0)
    rw [mxTo]
    omega
theorem mxTo_max {M : Int} {o : List Int} (h : inM M o) (hM : 0 ≤ M) (ks : List Int) (k : Nat) : mxTo o ks (k + 1) = maxTo o ks k := by
  induction k with
  | zero =>
    have := at0_bd h hM (ks.getD 1 0)
    rw [mxTo, mxTo, maxTo]
    simp only [Nat.zero_add]
    omega
  | succ k ih => rw [mxTo, ih, maxTo]
def mnOf (o : List Int) (r : RuleD) : Int :=
  if r.kind = 1 then r.size else if r.kind = 2 then r.bytes.length else if r.kind = 3 then r.size
  else if r.kind = 4 then at0 o (kid r 0) else if r.kind = 5 then at0 o (kid r 0)
  else if r.kind = 6 then sumTo o r.kids r.kids.length
  else if r.kind = 7 then minTo o r.kids (r.kids.length - 2) + at0 o (kid r 0)
  else if r.kind = 9 then at0 o (kid r 0) + 1 else 1
/-- The least lengths of the first rules. -/
def mins (D : List RuleD) : Nat → List Int
  | 0 => []
  | k + 1 => mins D k ++ [min 401 (mnOf (mins D k) (D.getD k default))]
theorem mins_length (D : List RuleD) (k : Nat) : (mins D k).length = k := by
  induction k with
  | zero => rfl
  | succ k ih => rw [mins, List.length_append, ih]; rfl
theorem mnOf_nonneg {o : List Int} {r : RuleD} (h : inM 401 o) (hs : 0 ≤ r.size) : 0 ≤ mnOf o r := by
  have h1 := at0_bd h (by omega) (kid r 0)
  have h2 := sumTo_bd h (by omega) r.kids r.kids.length
  have h3 := minTo_bd h (by omega) r.kids (r.kids.length - 2)
  unfold mnOf
  repeat' split
  all_goals omega
theorem getD_at {D : List RuleD} {k : Nat} (hk : k < D.length) : D.getD k default = D[k] := by simp [List.getD, List.getElem?_eq_getElem hk]
theorem mins_bd {D : List RuleD} (h : validD D = true) (k : Nat) (hk : k ≤ D.length) : inM 401 (mins D k) := by
  induction k with
  | zero => intro x hx; simp [mins] at hx
  | succ k ih =>
    have hb := ih (by omega)
    have hf := (validD_facts h).2 k (by omega)
    rw [← getD_at (show k < D.length by omega)] at hf
    have h0 := mnOf_nonneg hb hf.size.1
    intro x hx
    rw [mins, List.mem_append, List.mem_singleton] at hx
    rcases hx with hx | rfl
    · exact hb x hx
    · omega
/-- impl's way to the greatest lengths: capped by 401. -/
def mxOfI (D : List RuleD) (o : List Int) (r : RuleD) : Int :=
  if r.kind = 1 then r.size else if r.kind = 2 then r.bytes.length else if r.kind = 3 then r.size
  else if r.kind = 4 then at0 o (kid r 0) + limitOf D (kid r 0)
  else if r.kind = 5 then at0 o (kid r 0) + min 40 (limitOf D (kid r 0)) * at0 o (kid r 1)
  else if r.kind = 6 then sumTo o r.kids r.kids.length
  else if r.kind = 7 then maxTo o r.kids (r.kids.length - 2) + at0 o (kid r 0)
  else if r.kind = 8 then at0 o (kid r 0) + 1
  else if r.kind = 9 then at0 o (kid r 0) + 1 else 400
/-- spec's way: capped by 400. -/
def mxOfS (D : List RuleD) (o : List Int) (r : RuleD) : Int :=
  if r.kind = 1 then r.size else if r.kind = 2 then r.bytes.length else if r.kind = 3 then r.size
  else if r.kind = 4 then at0 o (kid r 0) + min 400 (limitOf D (kid r 0))
  else if r.kind = 5 then at0 o (kid r 0) + min 40 (limitOf D (kid r 0)) * at0 o (kid r 1)
  else if r.kind = 6 then sumTo o r.kids r.kids.length
  else if r.kind = 7 then maxTo o r.kids (r.kids.length - 2) + at0 o (kid r 0)
  else if r.kind = 8 then at0 o (kid r 0) + 1
  else if r.kind = 9 then at0 o (kid r 0) + 1 else 400
def maxsI (D : List RuleD) : Nat → List Int
  | 0 => []
  | k + 1 => maxsI D k ++ [min 401 (mxOfI D (maxsI D k) (D.getD k default))]
def maxsS (D : List RuleD) : Nat → List Int
  | 0 => []
  | k + 1 => maxsS D k ++ [min 400 (mxOfS D (maxsS D k) (D.getD k default))]
theorem maxsI_length (D : List RuleD) (k : Nat) : (maxsI D k).length = k := by
  induction k with
  | zero => rfl
  | succ k ih => rw [maxsI, List.length_append, ih]; rfl
theorem maxsS_length (D : List RuleD) (k : Nat) : (maxsS D k).length = k := by
  induction k with
  | zero => rfl
  | succ k ih => rw [maxsS, List.length_append, ih]; rfl
theorem lim_nonneg {D : List RuleD} {k : Nat} {r : RuleD} (hf : RuleF D k r) (h : r.kind = 4 ∨ r.kind = 5) : 0 < limitOf D (kid r 0) := by
  rcases h with h | h
  · exact (hf.c4 h).2
  · exact (hf.c5 h).2
theorem mul40_bd {a b M : Int} (h0 : 0 ≤ a) (h1 : a ≤ 40) (h2 : 0 ≤ b) (h3 : b ≤ M) (hM : M ≤ 401) : 0 ≤ a * b ∧ a * b ≤ 16040 := by
  have e1 := Int.mul_nonneg h0 h2
  have e2 : a * b ≤ 40 * b := Int.mul_le_mul_of_nonneg_right h1 h2
  omega
theorem mxOfI_nonneg {D : List RuleD} {o : List Int} {k : Nat} {r : RuleD} (h : inM 401 o) (hf : RuleF D k r) : 0 ≤ mxOfI D o r := by
  have h1 := at0_bd h (by omega) (kid r 0)
  have h5 := at0_bd h (by omega) (kid r 1)
  have h2 := sumTo_bd h (by omega) r.kids r.kids.length
  have h3 := maxTo_bd h (by omega) r.kids (r.kids.length - 2)
  have h4 := hf.size
  unfold mxOfI
  split; · omega
  split; · omega
  split; · omega
  split
  · have := lim_nonneg hf (.inl ‹_›); omega
  split
  · have := lim_nonneg hf (.inr ‹_›)
    have := mul40_bd (show 0 ≤ min 40 (limitOf D (kid r 0)) by omega) (by omega) h5.1 h5.2 (by omega)
    omega
  repeat' split
  all_goals omega
theorem maxsI_bd {D : List RuleD} (h : validD D = true) (k : Nat) (hk : k ≤ D.length) : inM 401 (maxsI D k) := by
  induction k with
  | zero => intro x hx; simp [maxsI] at hx
  | succ k ih =>
    have hb := ih (by omega)
    have hf := (validD_facts h).2 k (by omega)
    have h0 := mxOfI_nonneg hb hf
    rw [← getD_at (show k < D.length by omega)] at h0
    intro x hx
    rw [maxsI, List.mem_append, List.mem_singleton] at hx
    rcases hx with hx | rfl
    · exact hb x hx
    · omega
theorem at0_cap (o : List Int) (i : Int) : at0 (o.map (min 400)) i = min 400 (at0 o i) := by
  unfold at0
  rw [List.getD_eq_getElem?_getD, List.getD_eq_getElem?_getD, List.getElem?_map]
  cases o[i.toNat]? with
  | none => show (0 : Int) = min 400 0; decide
  | some x => simp
theorem sumTo_cap {o : List Int} (h : inM 401 o) (ks : List Int) (k : Nat) : 0 ≤ sumTo (o.map (min 400)) ks k ∧ min 400 (sumTo (o.map (min 400)) ks k) = min 400 (sumTo o ks k) := by
  induction k with
  | zero => simp [sumTo]
  | succ k ih =>
    have h1 := at0_bd h (by omega) (ks.getD k 0)
    have h2 := sumTo_bd h (by omega) ks k
    rw [sumTo, sumTo, at0_cap]
    omega
theorem maxTo_cap {o : List Int} (ks : List Int) (k : Nat) : maxTo (o.map (min 400)) ks k = min 400 (maxTo o ks k) := by
  induction k with
  | zero => exact at0_cap _ _
  | succ k ih =>
    rw [maxTo, maxTo, at0_cap, ih]
    omega
theorem mul_cap (a t u : Int) (ha : 1 ≤ a) (ht : 0 ≤ t) (hu : 0 ≤ u) : min 400 (min 400 t + a * min 400 u) = min 400 (t + a * u) := by
  by_cases h : u ≤ 400
  · rw [show min 400 u = u by omega]
    have := Int.mul_nonneg (show 0 ≤ a by omega) hu
    omega
  · rw [show min 400 u = 400 by omega]
    have e1 : 1 * u ≤ a * u := Int.mul_le_mul_of_nonneg_right ha hu
    have e2 : 1 * 400 ≤ a * 400 := Int.mul_le_mul_of_nonneg_right ha (by omega)
    omega
theorem mxOf_cap {D : List RuleD} {o : List Int} {k : Nat} {r : RuleD} (h : inM 401 o) (hf : RuleF D k r) : min 400 (mxOfS D (o.map (min 400)) r) = min 400 (mxOfI D o r) := by
  have h1 := at0_bd h (by omega) (kid r 0)
  have h5 := at0_bd h (by omega) (kid r 1)
  have h2 := sumTo_cap h r.kids r.kids.length
  have h3 := maxTo_cap (o := o) r.kids (r.kids.length - 2)
  have h6 := maxTo_bd h (by omega) r.kids (r.kids.length - 2)
  have e0 := at0_cap o (kid r 0)
  have e1 := at0_cap o (kid r 1)
  unfold mxOfI mxOfS
  rw [e0, e1, h3]
  split; · rfl
  split; · rfl
  split; · rfl
  split
  · have := lim_nonneg hf (.inl ‹_›); omega
  split
  · have := lim_nonneg hf (.inr ‹_›)
    exact mul_cap _ _ _ (by omega) h1.1 h5.1
  split
  · exact h2.2
  repeat' split
  all_goals omega
theorem maxs_cap {D : List RuleD} (h : validD D = true) (k : Nat) (hk : k ≤ D.length) : maxsS D k = (maxsI D k).map (min 400) := by
  induction k with
  | zero => rfl
  | succ k ih =>
    have hb := maxsI_bd h k (by omega)
    have hf := (validD_facts h).2 k (by omega)
    rw [← getD_at (show k < D.length by omega)] at hf
    rw [maxsS, maxsI, List.map_append, ih (by omega), mxOf_cap hb hf]
    congr 1
    simp only [List.map_cons, List.map_nil]
    congr 1
    omega
theorem maxsS_bd {D : List RuleD} (h : validD D = true) (k : Nat) (hk : k ≤ D.length) : inM 400 (maxsS D k) := by
  rw [maxs_cap h k hk]
  intro x hx
  obtain ⟨y, hy, rfl⟩ := List.mem_map.1 hx
  have := maxsI_bd h k hk y hy
  omega
/-- The least length of an encoding of rule i. -/
def minSz (D : List RuleD) (i : Int) : Int := if knownD D i then at0 (mins D D.length) i else 0
def maxSz (D : List RuleD) (i : Int) : Int := if knownD D i then min 400 (at0 (maxsI D D.length) i) else 0
theorem maxSz_spec {D : List RuleD} {i : Int} (h : knownD D i = true) : maxSz D i = at0 (maxsS D D.length) i := by
  unfold maxSz knownD at *
  rw [if_pos h]
  rw [Bool.and_eq_true] at h
  rw [maxs_cap h.2 _ (Nat.le_refl _), at0_cap]
end Go.Proofs.Ytnbemdcdokhknaa
