/- Plain: the parts of a text and the steps of a path. No condition. -/
import Derived.Test.YtglminmoglncpaaSplit
import Derived.Test.YtglminmoglncpaaOwn
namespace Go.Proofs.Ytglminmoglncpaa
open Go.RowKit
theorem partsTo_sizes (s : ByteArray) (c : UInt8) (k : Nat) (hk : k ≤ s.size) : ∀ p ∈ (partsTo s c k).1, p.size ≤ s.size := by
  induction k with
  | zero => simp [partsTo]
  | succ k ih =>
    intro p hp
    simp only [partsTo] at hp
    split at hp
    · rcases List.mem_append.1 hp with h | h
      · exact ih (by omega) p h
      · simp only [List.mem_singleton] at h; subst h
        rw [ByteArray.size_extract]; omega
    · exact ih (by omega) p hp
theorem splitT_sizes (s : ByteArray) (c : UInt8) : ∀ p ∈ splitT s c, p.size ≤ s.size := by
  intro p hp
  rcases List.mem_append.1 hp with h | h
  · exact partsTo_sizes s c _ (Nat.le_refl _) p h
  · simp only [List.mem_singleton] at h; subst h
    rw [ByteArray.size_extract]; omega
theorem splitT_length (s : ByteArray) (c : UInt8) : (splitT s c).length ≤ s.size + 1 ∧ 1 ≤ (splitT s c).length := by
  have := (partsTo_bd s c s.size).2
  simp only [splitT, List.length_append, List.length_singleton]; omega
theorem partsTo_head (s : ByteArray) (c : UInt8) (k : Nat) (h1 : 1 ≤ k) (hk : k ≤ s.size) :
    (s.data[0]? = some c → ∃ t, (partsTo s c k).1 = s.extract 0 0 :: t) ∧
    (s.data[0]? ≠ some c → ((partsTo s c k).1 = [] ∧ (partsTo s c k).2 = 0) ∨ ∃ j t, 1 ≤ j ∧ j < k ∧ (partsTo s c k).1 = s.extract 0 j :: t) := by
  induction k with
  | zero => omega
  | succ k ih =>
    by_cases hz : k = 0
    · subst hz
      constructor
      · intro h; exact ⟨[], by simp [partsTo, h]⟩
      · intro h; exact .inl (by simp [partsTo, h])
    · obtain ⟨i1, i2⟩ := ih (by omega) (by omega)
      constructor
      · intro h
        obtain ⟨t, ht⟩ := i1 h
        simp only [partsTo]
        split
        · exact ⟨t ++ [s.extract (partsTo s c k).2 k], by rw [ht]; rfl⟩
        · exact ⟨t, ht⟩
      · intro h
        simp only [partsTo]
        rcases i2 h with ⟨e1, e2⟩ | ⟨j, t, hj1, hj2, ht⟩
        · split
          · exact .inr ⟨k, [], by omega, by omega, by rw [e1, e2]; rfl⟩
          · exact .inl ⟨e1, e2⟩
        · split
          · exact .inr ⟨j, t ++ [s.extract (partsTo s c k).2 k], hj1, by omega, by rw [ht]; rfl⟩
          · exact .inr ⟨j, t, hj1, by omega, ht⟩
theorem splitT_hit (s : ByteArray) (c : UInt8) (h : s.data[0]? = some c) : ∃ t, splitT s c = s.extract 0 0 :: t ∧ t ≠ [] := by
  have hs : 1 ≤ s.size := by
    have : 0 < s.data.size := (Array.getElem?_eq_some_iff.1 h).1
    exact this
  obtain ⟨t, ht⟩ := (partsTo_head s c s.size hs (Nat.le_refl _)).1 h
  exact ⟨t ++ [s.extract (partsTo s c s.size).2 s.size], by rw [splitT, ht]; rfl, by simp⟩
theorem splitT_miss (s : ByteArray) (c : UInt8) (hs : 1 ≤ s.size) (h : s.data[0]? ≠ some c) : ∃ p t, splitT s c = p :: t ∧ 1 ≤ p.size := by
  rcases (partsTo_head s c s.size hs (Nat.le_refl _)).2 h with ⟨e1, e2⟩ | ⟨j, t, hj1, hj2, ht⟩
  · exact ⟨s.extract 0 s.size, [], by rw [splitT, e1, e2]; rfl, by rw [ByteArray.size_extract]; omega⟩
  · exact ⟨s.extract 0 j, t ++ [s.extract (partsTo s c s.size).2 s.size], by rw [splitT, ht]; rfl, by rw [ByteArray.size_extract]; omega⟩
/-- A slice to be read: its block lies from lo up to hi. -/
def RdS (l : List ByteArray) (lo hi : Nat) (w : World) (v : Value) : Prop :=
  Sl w hi 1 v l.length (l.map .string) ∧ (∀ ad n c, v = .slice (some ad) n c → lo ≤ ad.block) ∧ hi ≤ w.heap.size
theorem RdS.keep {l : List ByteArray} {lo hi lo' hi' : Nat} {w w' : World} {v : Value} (h : RdS l lo hi w v) (ho : Out lo' hi' w w') (hd : hi ≤ lo' ∨ hi' ≤ lo) : RdS l lo hi w' v := by
  obtain ⟨⟨hl, A, c, rfl, hc, hm, hr⟩, hlo, hh⟩ := h
  refine ⟨⟨hl, A, c, rfl, hc, hm, fun hn => ?_⟩, hlo, Nat.le_trans hh ho.size⟩
  obtain ⟨b, off, e, hb, hcell⟩ := hr hn
  refine ⟨b, off, e, hb, fun j u hu => ho.cell (hcell j u hu) ?_⟩
  subst e
  have := hlo _ _ _ rfl
  show b < lo' ∨ hi' ≤ b
  have h2 : lo ≤ b := this
  omega
theorem RdS.sl {l : List ByteArray} {lo hi : Nat} {w : World} {v : Value} (h : RdS l lo hi w v) : SlS w w.heap.size v l := h.1.more h.2.2
theorem RdS.more {l : List ByteArray} {lo hi hi' : Nat} {w : World} {v : Value} (h : RdS l lo hi w v) (h1 : hi ≤ hi') (h2 : hi' ≤ w.heap.size) : RdS l lo hi' w v :=
  ⟨h.1.more h1, h.2.1, h2⟩
theorem RdS.of_own {l : List ByteArray} {lo : Nat} {w : World} {v : Value} (h : w.ownsRow lo 9 1 v l.length (l.map .string)) : RdS l lo w.heap.size w v := by
  refine ⟨Sl.of_own h, ?_, Nat.le_refl _⟩
  rcases h.2 with ⟨rfl, _⟩ | ⟨g, cap, cur, rfl, hb, _⟩
  · intro ad n c e; cases e
  · intro ad n c e; cases e; exact hb
theorem RdS.cut {x : ByteArray} {l : List ByteArray} {lo : Nat} {w : World} {A : Option Addr} {c : Nat} (h : w.ownsRow lo 9 1 (.slice A (l.length + 1) c) (l.length + 1) ((x :: l).map .string)) :
    RdS l lo w.heap.size w (.slice (cutA A c 1 1) (l.length + 1 - 1) (c - 1)) := by
  have h0 : RdS (x :: l) lo w.heap.size w (.slice A (l.length + 1) c) := RdS.of_own h
  obtain ⟨hs, hlo, hh⟩ := h0
  have hcm : l.length + 1 ≤ c ∧ c ≤ maxLen := by
    obtain ⟨_, A', c', e, h1, h2, _⟩ := hs
    cases e; exact ⟨h1, h2⟩
  have h1 := Sl.cutA hs 1 (l.length + 1) c (by omega) (by simp) hcm.1 hcm.2 (by decide)
  simp only [Nat.add_sub_cancel, Nat.mul_one, List.map_cons, List.drop_succ_cons, List.drop_zero] at h1
  rw [List.take_of_length_le (by simp)] at h1
  refine ⟨by simpa using h1, ?_, hh⟩
  intro ad n c' e
  simp only [Value.slice.injEq] at e
  obtain ⟨e1, _, _⟩ := e
  unfold Proofs.Ytglminmoglncpaa.cutA at e1
  split at e1
  · subst e1; exact hlo _ _ _ rfl
  · cases A with
    | none => cases e1
    | some a =>
      simp only [Option.map_some, Option.some.injEq] at e1
      subst e1
      have := hlo a _ _ rfl
      have e2 : (a.add (1 * 1)).block = a.block := by unfold Addr.add; split <;> rfl
      rw [e2]; exact this
/-- The steps behind the first slash. -/
def tailT (s : ByteArray) : List ByteArray := (splitT s 47).tail
def spOk (isS : ByteArray → Bool) (s : ByteArray) : Bool := s.size == 0 || (decide (s.data[0]? = some 47) && (tailT s).all isS)
def spL (isS : ByteArray → Bool) (s : ByteArray) : List ByteArray := if s.size ≠ 0 ∧ spOk isS s = true then tailT s else []
/-- A slice to be read, and whether. -/
def RdB (l : List ByteArray) (b : Bool) (w : World) (e : Ending) (w' : World) : Prop :=
  ∃ v, e = .returned (.tuple #[v, .bool b]) ∧ RdS l w.heap.size w'.heap.size w' v ∧ Below w.heap.size w w'
theorem rdS_empty {w : World} {lo g : Nat} {o : Obj} (hg : g = w.heap.size) (hl : lo ≤ g) : RdS [] lo (w.alloc o).heap.size (w.alloc o) (.slice (some ⟨g, 0, none⟩) 0 0) :=
  ⟨⟨by simp, _, _, rfl, Nat.le_refl _, Nat.zero_le _, fun h => absurd h (by simp)⟩, fun ad n c e => by cases e; exact hl, Nat.le_refl _⟩
end Go.Proofs.Ytglminmoglncpaa
