/- The walks of the laws' helpers that measure a description: szByteS, szIntS, szRule, szRuleS, szDescription. Conditions: the slices read as lists. -/
import Derived.Test.YtkfmdkogifmfmaaDoorDesc
import Derived.Test.YtkfmdkogifmfmaaDoorOwn
import Derived.Test.YtkfmdkogifmfmaaDoorStrs
import Derived.WalkSpells
import Derived.WalkLawsBesides
namespace Go.Proofs.YtkfmdkogifmfmaaDoor
set_option linter.unusedSimpArgs false
set_option linter.unusedVariables false
open Go.RowKit

/-- What is left behind a count. -/
def leftOf (n : Int) (k : Nat) : Int := if n - k < 0 then -1 else n - k
theorem szByteS_any (v : Value) (l : List UInt8) (B : Nat) (n : Int) (w : World) (h : SlB w B v l) (h0 : 0 ≤ n) (h1 : n ≤ 1048576) :
    Calls Tryd.prog 31 #[v, .int .i64 n] w fun e w' => e = .returned (.int .i64 (leftOf n l.length)) ∧ w = w' := by
  obtain ⟨A, c, rfl, hc, hm, _⟩ := h.open_
  unfold maxLen at hm
  clear h
  by_cases hx : n - l.length < 0
  · have H := Lib.hid (show leftOf n l.length = -1 by unfold leftOf; rw [if_pos hx])
    go_enter Tryd.func31, Tryd.ntmps31
    go_wp2
    go_ret
    exact ⟨ret_int H.out.symm, rfl⟩
  · have H := Lib.hid (show leftOf n l.length = n - l.length by unfold leftOf; rw [if_neg hx])
    go_enter Tryd.func31, Tryd.ntmps31
    go_wp2
    go_ret
    exact ⟨ret_int H.out.symm, rfl⟩
theorem szIntS_any (v : Value) (l : List Int) (B : Nat) (n : Int) (w : World) (h : SlI w B v l) (h0 : 0 ≤ n) (h1 : n ≤ 1048576) :
    Calls Tryd.prog 50 #[v, .int .i64 n] w fun e w' => e = .returned (.int .i64 (leftOf n l.length)) ∧ w = w' := by
  obtain ⟨A, c, rfl, hc, hm, _⟩ := Sl.one h
  unfold maxLen at hm
  clear h
  by_cases hx : n - l.length < 0
  · have H := Lib.hid (show leftOf n l.length = -1 by unfold leftOf; rw [if_pos hx])
    go_enter Tryd.func50, Tryd.ntmps50
    go_wp2
    go_ret
    exact ⟨ret_int H.out.symm, rfl⟩
  · have H := Lib.hid (show leftOf n l.length = n - l.length by unfold leftOf; rw [if_neg hx])
    go_enter Tryd.func50, Tryd.ntmps50
    go_wp2
    go_ret
    exact ⟨ret_int H.out.symm, rfl⟩
/-- A rule's parts are no longer than N. -/
structure RuleD.small (r : RuleD) (N : Nat) : Prop where
  name : r.name.size ≤ N
  bytes : r.bytes.length ≤ N
  names : r.names.length ≤ N
  total : total r.names ≤ N
  tags : r.tags.length ≤ N
  kids : r.kids.length ≤ N
def rmV (r : RM) : Value := .agg #[.string r.d.name, .int .i64 r.d.kind, .int .i64 r.d.size, .bool r.d.little, r.vb, r.vn, r.vt, r.vk]
theorem leftOf_cases (n : Int) (k : Nat) : leftOf n k = -1 ∨ (0 ≤ leftOf n k ∧ leftOf n k = n - k) := by unfold leftOf; split <;> omega

set_option maxHeartbeats 1000000 in
theorem szRule_any (r : RM) (B : Nat) (n : Int) (w : World) (h : r.rd w B) (hB : B ≤ w.heap.size) (ok : r.d.ok) (h0 : 0 ≤ n) (h1 : n ≤ 1048576) :
    Calls Tryd.prog 40 #[rmV r, .int .i64 n] w (SzL (r.d.small 1048576) n w) := by
  have hn := ok.name
  unfold maxLen at hn
  unfold rmV
  have hB1 : Below w.heap.size w (w.alloc (.cells #[.string r.d.name, .int .i64 r.d.kind, .int .i64 r.d.size, .bool r.d.little, r.vb, r.vn, r.vt, r.vk] 75)) := (Below.refl _ _).alloc (Nat.le_refl _) _
  have h2 := h.below (hB1.mono hB)
  by_cases c0 : n - r.d.name.size < 0
  · clear h h2
    go_enter Tryd.func40, Tryd.ntmps40
    go_wp2
    go_ret
    exact ⟨-1, rfl, hB1, .inl rfl⟩
  obtain ⟨n1, hn1⟩ : ∃ n1, n1 = n - r.d.name.size := ⟨_, rfl⟩
  go_enter Tryd.func40, Tryd.ntmps40
  go_wp2_with fail
  refine (szByteS_any _ r.d.bytes _ _ _ h2.b (by omega) (by omega)).mono ?_
  rintro e w9 ⟨rfl, rfl⟩
  rcases leftOf_cases (n - r.d.name.size) r.d.bytes.length with e1 | ⟨p1, e1⟩
  · rw [e1]; clear h h2
    go_wp2
    go_ret
    exact ⟨-1, rfl, hB1, .inl rfl⟩
  obtain ⟨x1, hx1⟩ : ∃ x, x = leftOf (n - r.d.name.size) r.d.bytes.length := ⟨_, rfl⟩
  rw [← hx1] at e1 p1 ⊢
  clear hx1
  have E1 := Lib.hid e1
  have l1 : x1 ≤ n := by omega
  clear e1
  go_wp2_with fail
  refine (szStringS_any _ r.d.names _ _ _ h2.n ok.names p1 (by omega)).mono ?_
  rintro e w9 ⟨x2, rfl, rfl, hr2⟩
  rcases hr2 with rfl | ⟨p2, e2⟩
  · clear h h2
    go_wp2
    go_ret
    exact ⟨-1, rfl, hB1, .inl rfl⟩
  have E2 := Lib.hid e2
  have l2 : x2 ≤ n := by omega
  clear e2
  go_wp2_with fail
  refine (szIntS_any _ r.d.tags _ _ _ h2.t p2 (by omega)).mono ?_
  rintro e w9 ⟨rfl, rfl⟩
  rcases leftOf_cases x2 r.d.tags.length with e3 | ⟨p3, e3⟩
  · rw [e3]; clear h h2
    go_wp2
    go_ret
    exact ⟨-1, rfl, hB1, .inl rfl⟩
  obtain ⟨x3, hx3⟩ : ∃ x, x = leftOf x2 r.d.tags.length := ⟨_, rfl⟩
  rw [← hx3] at e3 p3 ⊢
  clear hx3
  have E3 := Lib.hid e3
  have l3 : x3 ≤ n := by have := E2.out; omega
  clear e3
  go_wp2_with fail
  refine (szIntS_any _ r.d.kids _ _ _ h2.k p3 (by omega)).mono ?_
  rintro e w9 ⟨rfl, rfl⟩
  rcases leftOf_cases x3 r.d.kids.length with e4 | ⟨p4, e4⟩
  · rw [e4]; clear h h2
    go_wp2
    go_ret
    exact ⟨-1, rfl, hB1, .inl rfl⟩
  obtain ⟨x4, hx4⟩ : ∃ x, x = leftOf x3 r.d.kids.length := ⟨_, rfl⟩
  rw [← hx4] at e4 p4 ⊢
  clear hx4
  have E4 := Lib.hid e4
  have l4 : x4 ≤ n := by omega
  clear e4 h h2 hn1
  go_wp2
  go_ret
  have a1 := E1.out; have a2 := E2.out; have a3 := E3.out; have a4 := E4.out
  exact ⟨x4, rfl, hB1, .inr ⟨p4, l4, ⟨by omega, by omega, by omega, by omega, by omega, by omega⟩⟩⟩
end Go.Proofs.YtkfmdkogifmfmaaDoor
