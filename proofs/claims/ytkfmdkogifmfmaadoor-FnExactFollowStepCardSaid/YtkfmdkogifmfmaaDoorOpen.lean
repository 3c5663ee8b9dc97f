/- Arguments that came in, opened to lists: slices of one-cell and of flat struct elements. No condition. -/
import Derived.Test.YtkfmdkogifmfmaaDoorMem
import Derived.ProofKit
import Derived.Deep.Slices
import Derived.Deep.Fields
namespace Go.Proofs.YtkfmdkogifmfmaaDoor
set_option linter.unusedSimpArgs false
set_option linter.unusedVariables false
open Go.ChangeShapes Go.WideShapes Go.ChangeAt Go.RowKit Go.Deep

theorem flatMap_at {T : Type} (c : T → List Value) (size : Nat) (hc : ∀ t, (c t).length = size) (l : List T) (k j : Nat) (hk : k < l.length) (hj : j < size) : (l.flatMap c)[k * size + j]? = (c l[k])[j]? := by
  induction l generalizing k with
  | nil => simp at hk
  | cons t l ih =>
    cases k with
    | zero => simp only [List.flatMap_cons, Nat.zero_mul, Nat.zero_add]; rw [List.getElem?_append_left (by rw [hc]; exact hj)]; rfl
    | succ k =>
      simp only [List.flatMap_cons]
      rw [List.getElem?_append_right (by rw [hc, Nat.succ_mul]; omega)]
      have e1 : (k + 1) * size + j - (c t).length = k * size + j := by rw [hc, Nat.succ_mul]; omega
      rw [e1]
      exact ih k (by simpa using hk)
theorem flatMap_len {T : Type} (c : T → List Value) (size : Nat) (hc : ∀ t, (c t).length = size) (l : List T) : (l.flatMap c).length = l.length * size := by
  induction l with
  | nil => simp
  | cons t l ih => simp only [List.flatMap_cons, List.length_append, List.length_cons, hc, ih, Nat.succ_mul]; omega

theorem choose_list {T : Type} (len : Nat) (p : Nat → T → Prop) (h : ∀ i, i < len → ∃ t, p i t) : ∃ l : List T, l.length = len ∧ ∀ i (hi : i < l.length), p i l[i] := by
  induction len with
  | zero => exact ⟨[], rfl, fun i hi => by simp at hi⟩
  | succ n ih =>
    obtain ⟨l, hl, hp⟩ := ih fun i hi => h i (by omega)
    obtain ⟨t, ht⟩ := h n (by omega)
    refine ⟨l ++ [t], by simp [hl], fun i hi => ?_⟩
    by_cases hlt : i < l.length
    · rw [List.getElem_append_left hlt]; exact hp i hlt
    · have : i = n := by simp at hi; omega
      subst this
      rw [List.getElem_append_right (by omega)]
      simpa [hl] using ht

theorem flat_one {T : Type} (f : T → Value) (l : List T) : l.flatMap (fun b => [f b]) = l.map f := by
  induction l with
  | nil => rfl
  | cons b l ih => rw [List.flatMap_cons, ih]; rfl

section
variable {H : Type} {enc : TypeId × Value → H} {P : Program} {w : World}
theorem open_list {T : Type} {t e : TypeId} {fuel size : Nat} {v : Value} {x : DataW H × List MemPlace} (ht : P.underlying t = some (.slice e)) (hC : P.cellsOf e = size) (hs : 0 < size)
    (c : T → List Value) (Q : T → Prop) (hc : ∀ t, (c t).length = size) (h : DataW.trod enc P w 0 (fun _ => true) true fuel t [v] = some x)
    (hel : ∀ n cs' y, DataW.trod enc P w 0 (fun _ => true) true n e cs' = some y → ∃ t : T, cs' = c t ∧ Q t) :
    ∃ l : List T, Sl w w.heap.size size v l.length (l.flatMap c) ∧ ∀ t ∈ l, Q t := by
  rcases open_slice ht h with ⟨h0, _⟩ | ⟨a, len, cap, m, n, D, Pl, hcs, _, hl, hm, hmm, _, hi⟩
  · simp only [List.cons.injEq, and_true] at h0
    subst h0
    exact ⟨[], Sl.nil _ _ _, by simp⟩
  · simp only [List.cons.injEq, and_true] at hcs
    subst hcs
    simp only [if_true] at hmm
    subst hmm
    have hex : ∀ i, i < len → ∃ t : T, w.cells? 0 (a.add (i * size)) size = some (c t) ∧ Q t := by
      intro i hil
      obtain ⟨cs', h1, h2⟩ := hi i (by omega)
      rw [hC] at h1
      obtain ⟨t, rfl, hq⟩ := hel n cs' _ h2
      exact ⟨t, h1, hq⟩
    obtain ⟨l, hll, hp⟩ := choose_list len _ hex
    refine ⟨l, ⟨flatMap_len c size hc l, some a, m, by rw [hll], by omega, hm, fun hpos => ?_⟩, ?_⟩
    · obtain ⟨b, off, spot⟩ := a
      have hcell : ∀ i (hi : i < l.length) j, j < size → w.cell? ((⟨b, off, spot⟩ : Addr).add (i * size + j)) = (c l[i])[j]? := by
        intro i hi j hj
        obtain ⟨_, _, hat⟩ := World.cells?_some (hp i hi).1
        have := hat j hj
        rw [Go.Deep.add_add] at this
        exact this
      have h00 := hcell 0 hpos 0 hs
      rw [List.getElem?_eq_getElem (by rw [hc]; exact hs)] at h00
      have hspot : spot = none := by
        have := World.cell?_spot h00
        simpa [Addr.add] using this
      subst hspot
      have hadd : ∀ i, (⟨b, off, none⟩ : Addr).add i = ⟨b, off + i, none⟩ := by intro i; unfold Addr.add; split <;> simp_all
      refine ⟨b, off, rfl, ?_, ?_⟩
      · have := World.block_lt_of_cell? w _ h00
        rw [hadd] at this
        exact this
      · intro j u hu
        have hjl : j < l.length * size := by
          have := (List.getElem?_eq_some_iff.1 hu).1
          rwa [flatMap_len c size hc l] at this
        have hk : j / size < l.length := Nat.div_lt_of_lt_mul (by rw [Nat.mul_comm]; exact hjl)
        have hm' : j % size < size := Nat.mod_lt _ hs
        have e : j / size * size + j % size = j := by rw [Nat.mul_comm]; exact Nat.div_add_mod j size
        have h1 := hcell (j / size) hk (j % size) hm'
        rw [e, hadd] at h1
        rw [h1, ← flatMap_at c size hc l (j / size) (j % size) hk hm', e]
        exact hu
    · intro t ht'
      obtain ⟨i, hi, rfl⟩ := List.getElem_of_mem ht'
      exact (hp i hi).2

theorem wf_i64_bd {a : Int} (h : (Lit.int .i64 a).wf = true) : -9223372036854775808 ≤ a ∧ a ≤ 9223372036854775807 := by
  simpa [Lit.wf, IntKind.min, IntKind.max, IntKind.signed, IntKind.bits] using h
theorem wf_u8_bd {a : Int} (h : (Lit.int .u8 a).wf = true) : 0 ≤ a ∧ a ≤ 255 := by
  simpa [Lit.wf, IntKind.min, IntKind.max, IntKind.signed, IntKind.bits] using h

theorem trod_bytes {t e : TypeId} {fuel : Nat} {v : Value} {x : DataW H × List MemPlace} (ht : P.underlying t = some (.slice e)) (he : P.underlying e = some (.int .u8)) (hC : P.cellsOf e = 1)
    (h : DataW.trod enc P w 0 (fun _ => true) true fuel t [v] = some x) : ∃ l : List UInt8, SlB w w.heap.size v l := by
  obtain ⟨l, hl, _⟩ := open_list ht hC (by omega) (fun b : UInt8 => [u8v b]) (fun _ => True) (fun _ => rfl) h (by
    intro n cs' y hy
    obtain ⟨z, rfl, _, hz⟩ := DataW.trod_int he hy
    obtain ⟨h0, h1⟩ := wf_u8_bd hz
    refine ⟨UInt8.ofNat z.toNat, ?_, trivial⟩
    simp only [u8v, UInt8.toNat_ofNat']
    rw [show ((z.toNat % 2 ^ 8 : Nat) : Int) = z from by omega])
  refine ⟨l, ?_⟩
  rw [flat_one] at hl
  exact hl

/-! ### strings, ints -/
theorem trod_strings {t e : TypeId} {fuel : Nat} {v : Value} {x : DataW H × List MemPlace} (ht : P.underlying t = some (.slice e)) (he : P.underlying e = some .string) (hC : P.cellsOf e = 1)
    (h : DataW.trod enc P w 0 (fun _ => true) true fuel t [v] = some x) : ∃ l : List ByteArray, SlS w w.heap.size v l ∧ ∀ s ∈ l, s.size ≤ maxLen := by
  obtain ⟨l, hl, hq⟩ := open_list ht hC (by omega) (fun b : ByteArray => [.string b]) (fun s => s.size ≤ maxLen) (fun _ => rfl) h (by
    intro n cs' y hy
    obtain ⟨s, rfl, _, hs⟩ := DataW.trod_string he hy
    exact ⟨s, rfl, hs⟩)
  refine ⟨l, ?_, hq⟩
  rw [flat_one] at hl
  exact hl
def InI64 (a : Int) : Prop := -9223372036854775808 ≤ a ∧ a ≤ 9223372036854775807
theorem trod_i64s {t e : TypeId} {fuel : Nat} {v : Value} {x : DataW H × List MemPlace} (ht : P.underlying t = some (.slice e)) (he : P.underlying e = some (.int .i64)) (hC : P.cellsOf e = 1)
    (h : DataW.trod enc P w 0 (fun _ => true) true fuel t [v] = some x) : ∃ l : List Int, SlI w w.heap.size v l ∧ ∀ a ∈ l, InI64 a := by
  obtain ⟨l, hl, hq⟩ := open_list ht hC (by omega) (fun b : Int => [.int .i64 b]) InI64 (fun _ => rfl) h (by
    intro n cs' y hy
    obtain ⟨z, rfl, _, hz⟩ := DataW.trod_int he hy
    exact ⟨z, rfl, wf_i64_bd hz⟩)
  refine ⟨l, ?_, hq⟩
  rw [flat_one] at hl
  exact hl
end
end Go.Proofs.YtkfmdkogifmfmaaDoor
