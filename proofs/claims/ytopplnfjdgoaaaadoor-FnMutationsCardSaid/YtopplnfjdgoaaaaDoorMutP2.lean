/- Plain: a mutation is undone by its inverse, and changes little. No condition. -/
import Derived.Test.YtopplnfjdgoaaaaDoorInvert
import Derived.Test.YtopplnfjdgoaaaaDoorDistEd
namespace Go.Proofs.YtopplnfjdgoaaaaDoor
open Go.RowKit
theorem u8_byteAt (l : List UInt8) (k : Nat) (h : k < l.length) : UInt8.ofNat (byteAt l k).toNat = l[k] := by
  rw [byteAt_lt h]
  simp
theorem byteAt_bd (l : List UInt8) (k : Nat) : 0 ≤ byteAt l k ∧ byteAt l k ≤ 255 := by
  unfold byteAt
  have := (l[k]?.getD 0).toNat_lt
  omega
theorem mutOk_parts {l : List UInt8} {m : Muta} (h : mutOk l m = true) : (0 ≤ m.byte ∧ m.byte ≤ 255) ∧ 0 ≤ m.pos ∧ ((m.kind = 1 ∧ m.pos < l.length) ∨ (m.kind = 2 ∧ m.pos ≤ l.length) ∨ (m.kind = 3 ∧ m.pos < l.length ∧ m.byte = 0)) := by
  unfold mutOk at h
  simpa only [Bool.and_eq_true, Bool.or_eq_true, decide_eq_true_eq] using h
theorem mutOk_of {l : List UInt8} {m : Muta} (h1 : 0 ≤ m.byte ∧ m.byte ≤ 255) (h2 : 0 ≤ m.pos) (h3 : (m.kind = 1 ∧ m.pos < l.length) ∨ (m.kind = 2 ∧ m.pos ≤ l.length) ∨ (m.kind = 3 ∧ m.pos < l.length ∧ m.byte = 0)) : mutOk l m = true := by
  unfold mutOk
  simpa only [Bool.and_eq_true, Bool.or_eq_true, decide_eq_true_eq] using ⟨h1, h2, h3⟩
theorem splice1 (A B ins : List UInt8) (c : UInt8) (q : Nat) (h : A.length = q) : spliceL (A ++ c :: B) q 1 ins = A ++ ins ++ B := by
  subst h
  unfold spliceL
  rw [List.take_left', List.drop_append]
  · simp
  · rfl
theorem splice0 (A B ins : List UInt8) (q : Nat) (h : A.length = q) : spliceL (A ++ B) q 0 ins = A ++ ins ++ B := by
  subst h
  unfold spliceL
  rw [List.take_left', Nat.add_zero, List.drop_left']
  · rfl
  · rfl
theorem mutL1 (l : List UInt8) (q : Nat) (b : Int) (h : mutOk l ⟨1, q, b⟩ = true) : mutL l ⟨1, q, b⟩ = spliceL l q 1 [UInt8.ofNat b.toNat] := by
  unfold mutL; rw [if_pos h]; simp
theorem mutL2 (l : List UInt8) (q : Nat) (b : Int) (h : mutOk l ⟨2, q, b⟩ = true) : mutL l ⟨2, q, b⟩ = spliceL l q 0 [UInt8.ofNat b.toNat] := by
  unfold mutL; rw [if_pos h]; simp
theorem mutL3 (l : List UInt8) (q : Nat) (b : Int) (h : mutOk l ⟨3, q, b⟩ = true) : mutL l ⟨3, q, b⟩ = spliceL l q 1 [] := by
  unfold mutL; rw [if_pos h]; simp
theorem split_mut (l : List UInt8) (p r : Nat) : l.take p ++ ((l.drop p).take r ++ l.drop (p + r)) = l := by
  rw [← List.drop_drop, List.take_append_drop, List.take_append_drop]
theorem LD_sp (a l t : List UInt8) (p r : Nat) (hr : r ≤ 1) (ht : t.length ≤ 1) : LD a (spliceL l p r t) ≤ LD a l + 1 := by
  have := LD_near a (l.take p) ((l.drop p).take r) t (l.drop (p + r)) (by simp; omega) ht
  rw [split_mut] at this
  rw [spliceL, List.append_assoc]; exact this
theorem mut_undo (l : List UInt8) (m : Muta) (h : mutOk l m = true) :
    mutOk (mutL l m) (invM l m) = true ∧ mutL (mutL l m) (invM l m) = l ∧ (mutL l m).length ≤ l.length + 1 ∧ l.length ≤ (mutL l m).length + 1 ∧ LD l (mutL l m) ≤ 1 := by
  obtain ⟨k, p, b⟩ := m
  obtain ⟨hb, hp, hk⟩ := mutOk_parts h
  simp only at hb hp hk
  obtain ⟨q, rfl⟩ := Int.eq_ofNat_of_zero_le hp
  have hbt := byteAt_bd l q
  have h0 := (LD_zero l l).2 rfl
  rcases hk with ⟨rfl, hq⟩ | ⟨rfl, hq⟩ | ⟨rfl, hq, rfl⟩
  · have hq' : q < l.length := by omega
    have e2 : invM l ⟨1, q, b⟩ = ⟨1, q, byteAt l q⟩ := by unfold invM; rw [if_pos h]; simp
    have e1 := mutL1 l q b h
    have hd := LD_sp l l [UInt8.ofNat b.toNat] q 1 (Nat.le_refl _) (by simp)
    have hx := u8_byteAt l q hq'
    have hl : l = l.take q ++ l[q] :: l.drop (q + 1) := by rw [← List.drop_eq_getElem_cons hq', List.take_append_drop]
    have ht : (l.take q).length = q := by rw [List.length_take]; omega
    have e3 : mutL l ⟨1, q, b⟩ = l.take q ++ UInt8.ofNat b.toNat :: l.drop (q + 1) := by
      rw [e1]
      conv => lhs; arg 1; rw [hl]
      rw [splice1 _ _ _ _ _ ht]; simp
    have hlen : (mutL l ⟨1, q, b⟩).length = l.length := by rw [e3]; simp; omega
    have hok : mutOk (mutL l ⟨1, q, b⟩) ⟨1, q, byteAt l q⟩ = true := mutOk_of hbt (by simp) (.inl ⟨rfl, by rw [hlen]; simp only; omega⟩)
    refine ⟨by rw [e2]; exact hok, ?_, by omega, by omega, by rw [e1]; omega⟩
    rw [e2, mutL1 _ _ _ hok, hx, e3, splice1 _ _ _ _ _ ht]
    conv => rhs; rw [hl]
    simp
  · have e2 : invM l ⟨2, q, b⟩ = ⟨3, q, 0⟩ := by unfold invM; rw [if_pos h]; simp
    have e1 := mutL2 l q b h
    have hd := LD_sp l l [UInt8.ofNat b.toNat] q 0 (by omega) (by simp)
    have hl : l = l.take q ++ l.drop q := (List.take_append_drop q l).symm
    have ht : (l.take q).length = q := by rw [List.length_take]; omega
    have e3 : mutL l ⟨2, q, b⟩ = l.take q ++ UInt8.ofNat b.toNat :: l.drop q := by
      rw [e1]
      conv => lhs; arg 1; rw [hl]
      rw [splice0 _ _ _ _ ht]; simp
    have hlen : (mutL l ⟨2, q, b⟩).length = l.length + 1 := by rw [e3]; simp; omega
    have hok : mutOk (mutL l ⟨2, q, b⟩) ⟨3, q, 0⟩ = true := mutOk_of ⟨by simp, by simp⟩ (by simp) (.inr (.inr ⟨rfl, by rw [hlen]; simp only; omega, rfl⟩))
    refine ⟨by rw [e2]; exact hok, ?_, by omega, by omega, by rw [e1]; omega⟩
    rw [e2, mutL3 _ _ _ hok, e3, splice1 _ _ _ _ _ ht]
    simp
  · have hq' : q < l.length := by omega
    have e2 : invM l ⟨3, q, 0⟩ = ⟨2, q, byteAt l q⟩ := by unfold invM; rw [if_pos h]; simp
    have e1 := mutL3 l q 0 h
    have hd := LD_sp l l [] q 1 (Nat.le_refl _) (by simp)
    have hx := u8_byteAt l q hq'
    have hl : l = l.take q ++ l[q] :: l.drop (q + 1) := by rw [← List.drop_eq_getElem_cons hq', List.take_append_drop]
    have ht : (l.take q).length = q := by rw [List.length_take]; omega
    have e3 : mutL l ⟨3, q, 0⟩ = l.take q ++ l.drop (q + 1) := by
      rw [e1]
      conv => lhs; arg 1; rw [hl]
      rw [splice1 _ _ _ _ _ ht]; simp
    have hlen : (mutL l ⟨3, q, 0⟩).length + 1 = l.length := by rw [e3]; simp; omega
    have hok : mutOk (mutL l ⟨3, q, 0⟩) ⟨2, q, byteAt l q⟩ = true := mutOk_of hbt (by simp) (.inr (.inl ⟨rfl, by simp only; omega⟩))
    refine ⟨by rw [e2]; exact hok, ?_, by omega, by omega, by rw [e1]; omega⟩
    rw [e2, mutL2 _ _ _ hok, hx, e3, splice0 _ _ _ _ ht]
    conv => rhs; rw [hl]
    simp
theorem mut_none (l : List UInt8) (m : Muta) (h : mutOk l m = false) : mutL l m = l ∧ invM l m = ⟨0, 0, 0⟩ := by
  constructor
  · unfold mutL; rw [h]; rfl
  · unfold invM; rw [h]; rfl
theorem invM_ok (l : List UInt8) (m : Muta) (hm : m.ok) : (invM l m).ok := by
  have hb := byteAt_bd l m.pos.toNat
  obtain ⟨h1, h2, h3⟩ := hm
  unfold invM
  split
  · split
    · exact ⟨⟨by simp, by simp⟩, h2, ⟨by simp only; omega, by simp only; omega⟩⟩
    · split
      · exact ⟨⟨by simp, by simp⟩, h2, ⟨by simp, by simp⟩⟩
      · exact ⟨⟨by simp, by simp⟩, h2, ⟨by simp only; omega, by simp only; omega⟩⟩
  · exact ⟨⟨by simp, by simp⟩, ⟨by simp, by simp⟩, ⟨by simp, by simp⟩⟩
end Go.Proofs.YtopplnfjdgoaaaaDoor
