/- The walks of spec.IsWithin and impl.IsWithin: both return whether the path is the outer one or begins with it and a slash. No condition but the lengths of the strings. -/
import Derived.Test.YtglminmoglncpaaRows
import Derived.Test.YtglminmoglncpaaShelf
import Derived.Test.YtglminmoglncpaaMem
import Derived.WalkSpells
import Derived.WalkLawsBesides
namespace Go.Proofs.Ytglminmoglncpaa
open Go.RowKit

def withinB (p o : List UInt8) : Bool := p == o || Lib.hasPrefix p (o ++ [47])

theorem within_eq {p o : ByteArray} (h : p.toList = o.toList) : withinB p.data.toList o.data.toList = true := by
  rw [Lib.toList_data, Lib.toList_data] at h; simp [withinB, h]
theorem within_short {p o : ByteArray} (h : ¬ p.toList = o.toList) (h2 : ¬ o.size < p.size) : withinB p.data.toList o.data.toList = false := by
  rw [Lib.toList_data, Lib.toList_data] at h
  rw [Lib.size_eq, Lib.size_eq] at h2
  rw [withinB, beq_eq_false_iff_ne.2 h, Bool.false_or, Lib.hasPrefix]
  rw [Bool.eq_false_iff]
  intro hp
  have := (List.isPrefixOf_iff_prefix.1 hp).length_le
  simp at this
  simp at h2
  omega
theorem within_other {p o : ByteArray} (h : ¬ p.toList = o.toList) (h2 : o.size < p.size) (h3 : ¬ (p.extract 0 o.size).toList = o.toList) : withinB p.data.toList o.data.toList = false := by
  rw [Lib.toList_data, Lib.toList_data] at h
  rw [Lib.toList_data, Lib.toList_data, Lib.extract_data, Lib.size_eq o] at h3
  rw [withinB, beq_eq_false_iff_ne.2 h, Bool.false_or, Lib.hasPrefix]
  rw [Bool.eq_false_iff]
  intro hp
  obtain ⟨t, ht⟩ := List.isPrefixOf_iff_prefix.1 hp
  apply h3
  rw [← ht]
  simp
theorem at_core (P O : List UInt8) (n : Nat) (hl : n = O.length) (h4 : n < P.length) (h3 : P.take n = O) : (O ++ [47]).isPrefixOf P = (((P[n]'h4).toNat : Int) == 47) := by
  have hP : P = O ++ P[n] :: P.drop (n + 1) := by
    conv => lhs; rw [← List.take_append_drop n P, h3, List.drop_eq_getElem_cons h4]
  have key : (O ++ [47] <+: P) ↔ P[n] = 47 := by
    constructor
    · intro hx
      obtain ⟨t, ht⟩ := hx
      have : P[n]? = some 47 := by rw [← ht, hl]; simp
      rw [List.getElem?_eq_getElem h4] at this
      exact Option.some.inj this
    · intro hx
      refine ⟨P.drop (n + 1), ?_⟩
      rw [hx] at hP
      conv => rhs; rw [hP]
      simp
  rw [Bool.eq_iff_iff, List.isPrefixOf_iff_prefix, beq_iff_eq, key]
  constructor
  · intro hx; rw [hx]; rfl
  · intro hx
    apply UInt8.toNat_inj.1
    have : P[n].toNat = 47 := by omega
    rw [this]; rfl
theorem within_at {p o : ByteArray} (h : ¬ p.toList = o.toList) (h2 : o.size < p.size) (h3 : (p.extract 0 o.size).toList = o.toList) : withinB p.data.toList o.data.toList = ((p[o.size].toNat : Int) == 47) := by
  rw [Lib.toList_data, Lib.toList_data] at h
  rw [Lib.toList_data, Lib.toList_data, Lib.extract_data] at h3
  have e : p[o.size] = p.data.toList[o.size]'(by rw [← Lib.size_eq]; exact h2) := rfl
  rw [withinB, beq_eq_false_iff_ne.2 h, Bool.false_or, Lib.hasPrefix]
  rw [e]
  have hl : o.size = o.data.toList.length := Lib.size_eq o
  have h4 : o.size < p.data.toList.length := by rw [← Lib.size_eq]; exact h2
  exact at_core p.data.toList o.data.toList o.size hl h4 (by simpa using h3)

set_option maxHeartbeats 400000 in
theorem implIsWithin_any (p o : ByteArray) (w : World) (hp : p.size ≤ maxLen) (ho : o.size < 4611686018427387904) :
    Calls Try.prog 20 #[.string p, .string o] w fun e w' => e = .returned (.bool (withinB p.data.toList o.data.toList)) ∧ w = w' := by
  unfold maxLen at hp
  go_enter Try.func20, Try.ntmps20
  go_wp2_with (go_at_call 37; refine (Try.strings_HasPrefix _ _ _).mono ?_; rintro e w' ⟨rfl, rfl⟩)
  · go_ret
    exact ⟨ret_bool (within_eq (by assumption)).symm, rfl⟩
  · go_ret
    have h : ¬ p.toList = o.toList := by assumption
    rw [Lib.toList_data, Lib.toList_data] at h
    refine ⟨ret_bool ?_, rfl⟩
    rw [withinB, Lib.toList_data, Lib.toList_data, beq_eq_false_iff_ne.2 h]
end Go.Proofs.Ytglminmoglncpaa
