/- Decimal digits: plain laws. No program, no condition. -/
import Derived.Test.YtkfmdkogifmfmaaDoorMem
namespace Go.Proofs.YtkfmdkogifmfmaaDoor
set_option linter.unusedSimpArgs false
set_option linter.unusedVariables false

theorem snocRec {α : Type} {p : List α → Prop} (nil : p []) (append_singleton : ∀ (l : List α) (c : α), p l → p (l ++ [c])) (l : List α) : p l := by
  have h : ∀ l : List α, p l.reverse := by
    intro l
    induction l with
    | nil => simpa using nil
    | cons c l ih => simpa using append_singleton _ c ih
  simpa using h l.reverse

/-- The decimal digits of n; none for 0. -/
def digs (n : Nat) : List UInt8 := if h : n = 0 then [] else digs (n / 10) ++ [UInt8.ofNat (48 + n % 10)]
termination_by n
decreasing_by omega
theorem digs_zero : digs 0 = [] := by rw [digs]; simp
theorem digs_pos {n : Nat} (h : n ≠ 0) : digs n = digs (n / 10) ++ [UInt8.ofNat (48 + n % 10)] := by rw [digs, dif_neg h]

def isDig (c : UInt8) : Bool := decide (48 ≤ c.toNat) && decide (c.toNat ≤ 57)
def valD (l : List UInt8) : Nat := l.foldl (fun n c => 10 * n + (c.toNat - 48)) 0
theorem valD_snoc (l : List UInt8) (c : UInt8) : valD (l ++ [c]) = 10 * valD l + (c.toNat - 48) := by simp [valD]
theorem digit_ofNat (m : Nat) (h : m < 10) : (UInt8.ofNat (48 + m)).toNat = 48 + m := by simp; omega
theorem isDig_iff (c : UInt8) : isDig c = true ↔ 48 ≤ c.toNat ∧ c.toNat ≤ 57 := by simp [isDig]
theorem digs_all (n : Nat) : ∀ c ∈ digs n, isDig c = true := by
  induction n using Nat.strongRecOn with
  | _ n ih =>
    intro c hc
    by_cases h : n = 0
    · subst h; rw [digs_zero] at hc; simp at hc
    · rw [digs_pos h, List.mem_append] at hc
      rcases hc with hc | hc
      · exact ih (n / 10) (by omega) c hc
      · simp only [List.mem_singleton] at hc
        subst hc
        rw [isDig_iff, digit_ofNat _ (by omega)]; omega
theorem valD_digs (n : Nat) : valD (digs n) = n := by
  induction n using Nat.strongRecOn with
  | _ n ih =>
    by_cases h : n = 0
    · subst h; rw [digs_zero]; rfl
    · rw [digs_pos h, valD_snoc, ih (n / 10) (by omega), digit_ofNat _ (by omega)]; omega
theorem digs_head (n : Nat) (h : n ≠ 0) : ∃ c l, digs n = c :: l ∧ c ≠ 48 := by
  induction n using Nat.strongRecOn with
  | _ n ih =>
    by_cases h10 : n / 10 = 0
    · refine ⟨UInt8.ofNat (48 + n % 10), [], by rw [digs_pos h, h10, digs_zero]; rfl, ?_⟩
      intro hx
      have := congrArg UInt8.toNat hx
      rw [digit_ofNat _ (by omega)] at this
      have e48 : (48 : UInt8).toNat = 48 := rfl
      omega
    · obtain ⟨c, l, e, hc⟩ := ih (n / 10) (by omega) h10
      exact ⟨c, l ++ [UInt8.ofNat (48 + n % 10)], by rw [digs_pos h, e]; rfl, hc⟩
/-- Digits without a leading zero are the digits of their value. -/
theorem digs_valD (l : List UInt8) (hd : ∀ c ∈ l, isDig c = true) (hh : l.head? ≠ some 48) : digs (valD l) = l := by
  induction l using snocRec with
  | nil => exact digs_zero
  | append_singleton l c ih =>
    have hc := (isDig_iff c).1 (hd c (by simp))
    rw [valD_snoc]
    by_cases hl : l = []
    · subst hl
      have hne : c ≠ 48 := by rintro rfl; exact hh rfl
      have hne2 : c.toNat ≠ 48 := fun hx => hne (UInt8.toNat_inj.1 hx)
      have hv : valD [] = 0 := rfl
      rw [hv, digs_pos (by omega), show (10 * 0 + (c.toNat - 48)) / 10 = 0 from by omega, digs_zero]
      have : UInt8.ofNat (48 + (10 * 0 + (c.toNat - 48)) % 10) = c := by
        apply UInt8.toNat_inj.1; rw [digit_ofNat _ (by omega)]; omega
      rw [this]
    · have ih' := ih (fun d hd' => hd d (by simp [hd'])) (by
        cases l with
        | nil => exact absurd rfl hl
        | cons a l => simpa using hh)
      have hpos : valD l ≠ 0 := by
        intro h0
        rw [h0, digs_zero] at ih'
        exact hl ih'.symm
      rw [digs_pos (by omega), show (10 * valD l + (c.toNat - 48)) / 10 = valD l from by omega, ih']
      have : UInt8.ofNat (48 + (10 * valD l + (c.toNat - 48)) % 10) = c := by
        apply UInt8.toNat_inj.1; rw [digit_ofNat _ (by omega)]; omega
      rw [this]

/-- The text of an int, as FormatInt makes it. -/
def fmtI (n : Int) : List UInt8 := if n = 0 then [48] else if n < 0 then 45 :: digs n.natAbs else digs n.natAbs
/-- A text is the text of its value if and only if it is digits alone without a leading zero, or "0". -/
theorem fmt_val (l : List UInt8) (hd : ∀ c ∈ l, isDig c = true) (hne : l ≠ []) : (fmtI (valD l : Nat) = l) ↔ ¬ (l.head? = some 48 ∧ 1 < l.length) := by
  by_cases hh : l.head? = some 48
  · by_cases hl : 1 < l.length
    · have hbad : fmtI (valD l : Nat) ≠ l := by
        intro hx
        unfold fmtI at hx
        split at hx
        · rw [← hx] at hl; simp at hl
        · rename_i h0
          rw [if_neg (by omega)] at hx
          obtain ⟨c, t, e, hc⟩ := digs_head (valD l) (by omega)
          rw [Int.natAbs_natCast, e] at hx
          rw [← hx] at hh
          simp at hh
          exact hc hh
      exact ⟨fun h => absurd h hbad, fun h => absurd ⟨hh, hl⟩ h⟩
    · have : l = [48] := by
        match l, hne, hh, hl with
        | [a], _, hh, _ => simp at hh; rw [hh]
        | a :: b :: t, _, _, hl => simp at hl
      subst this
      exact ⟨fun _ h => hl h.2, fun _ => rfl⟩
  · have e := digs_valD l hd hh
    refine ⟨fun _ h => hh h.1, fun _ => ?_⟩
    have hpos : valD l ≠ 0 := by
      intro h0; rw [h0, digs_zero] at e; exact hne e.symm
    unfold fmtI
    rw [if_neg (by omega), if_neg (by omega), Int.natAbs_natCast, e]
theorem valD_bd (l : List UInt8) (hd : ∀ c ∈ l, isDig c = true) : valD l < 10 ^ l.length := by
  induction l using snocRec with
  | nil => simp [valD]
  | append_singleton l c ih =>
    have hc := (isDig_iff c).1 (hd c (by simp))
    have := ih (fun d hd' => hd d (by simp [hd']))
    rw [valD_snoc, List.length_append, List.length_singleton, Nat.pow_succ]
    omega
theorem digs_length (n k : Nat) (h : n < 10 ^ k) : (digs n).length ≤ k := by
  induction k generalizing n with
  | zero => have : n = 0 := by simpa using h
            subst this; rw [digs_zero]; simp
  | succ k ih =>
    by_cases h0 : n = 0
    · subst h0; rw [digs_zero]; simp
    · rw [digs_pos h0, List.length_append]
      have := ih (n / 10) (by rw [Nat.pow_succ] at h; omega)
      simp; omega
end Go.Proofs.YtkfmdkogifmfmaaDoor
