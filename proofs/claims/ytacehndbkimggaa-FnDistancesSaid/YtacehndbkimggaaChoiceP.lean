/- Plain: a drawn mutation can be applied; so many mutations lie within that distance. No condition. -/
import Derived.Test.YtacehndbkimggaaDistEd
import Derived.Test.YtacehndbkimggaaMutB
namespace Go.Proofs.Ytacehndbkimggaa
open Go.RowKit
theorem mutOk_mOf (l : List UInt8) (s : Int) (hl : l.length ≤ 400) : mutOk l (mOf l.length s) = true := by
  have b1 := nextNo_bd s
  have b2 := nextNo_bd (nextNo s)
  have b3 := nextNo_bd (nextNo (nextNo s))
  have e0 := Int.emod_nonneg (nextNo (nextNo (nextNo s))) (show (256 : Int) ≠ 0 by omega)
  have e9 := Int.emod_lt_of_pos (nextNo (nextNo (nextNo s))) (show (0 : Int) < 256 by omega)
  have e1 := Int.emod_nonneg (nextNo (nextNo s)) (show (l.length : Int) + 1 ≠ 0 by omega)
  have e2 := Int.emod_lt_of_pos (nextNo (nextNo s)) (show 0 < (l.length : Int) + 1 by omega)
  unfold mOf
  rw [if_pos (by omega)]
  by_cases hz : (l.length : Int) = 0
  · rw [if_pos hz]
    simp only [mutOk, Bool.and_eq_true, Bool.or_eq_true, decide_eq_true_eq]
    exact ⟨⟨by omega, by omega⟩, by omega, .inr (.inl ⟨trivial, by omega⟩)⟩
  · rw [if_neg hz]
    have e3 := Int.emod_nonneg (nextNo (nextNo s)) (show (l.length : Int) ≠ 0 by omega)
    have e4 := Int.emod_lt_of_pos (nextNo (nextNo s)) (show 0 < (l.length : Int) by omega)
    by_cases h0 : nextNo s % 3 = 0
    · rw [if_pos h0]
      simp only [mutOk, Bool.and_eq_true, Bool.or_eq_true, decide_eq_true_eq]
      exact ⟨⟨by omega, by omega⟩, by omega, .inl ⟨trivial, by omega⟩⟩
    · rw [if_neg h0]
      by_cases h1 : nextNo s % 3 = 1
      · rw [if_pos h1]
        simp only [mutOk, Bool.and_eq_true, Bool.or_eq_true, decide_eq_true_eq]
        exact ⟨⟨by omega, by omega⟩, by omega, .inr (.inl ⟨trivial, by omega⟩)⟩
      · rw [if_neg h1]
        simp only [mutOk, Bool.and_eq_true, Bool.or_eq_true, decide_eq_true_eq]
        exact ⟨⟨by omega, by omega⟩, by omega, .inr (.inr ⟨trivial, by omega, trivial⟩)⟩
theorem splice_split (l : List UInt8) (p r : Nat) : l.take p ++ ((l.drop p).take r ++ l.drop (p + r)) = l := by
  have h1 : (l.drop p).take r ++ l.drop (p + r) = l.drop p := by
    rw [← List.drop_drop]; exact List.take_append_drop r (l.drop p)
  rw [h1]; exact List.take_append_drop p l
theorem LD_splice (a l t : List UInt8) (p r : Nat) (hr : r ≤ 1) (ht : t.length ≤ 1) : LD a (spliceL l p r t) ≤ LD a l + 1 := by
  have := LD_near a (l.take p) ((l.drop p).take r) t (l.drop (p + r)) (by simp; omega) ht
  rw [splice_split] at this
  unfold spliceL
  rw [List.append_assoc]; exact this
theorem LD_mutL (a l : List UInt8) (m : Muta) : LD a (mutL l m) ≤ LD a l + 1 := by
  unfold mutL
  split
  · split
    · exact LD_splice a l _ _ 1 (by omega) (by simp)
    · split
      · exact LD_splice a l _ _ 0 (by omega) (by simp)
      · exact LD_splice a l _ _ 1 (by omega) (by simp)
  · omega
theorem LD_mbIt (a l : List UInt8) (s : Int) (k : Nat) : LD a (mbIt s l k) ≤ LD a l + k := by
  induction k with
  | zero => exact Nat.le_refl _
  | succ k ih =>
    have := LD_mutL a (mbIt s l k) (mOf (mbIt s l k).length (wrap64 (s + k)))
    simp only [mbIt]; omega
theorem LD_mbL (a l : List UInt8) (s c : Int) (hc : 0 ≤ c) : ((LD a (mbL l s c) : Nat) : Int) ≤ LD a l + c := by
  have h1 := LD_mbIt a l s (mbN l c)
  have h2 : (mbN l c : Int) ≤ c := by unfold mbN; split <;> omega
  unfold mbL; omega
end Go.Proofs.Ytacehndbkimggaa
