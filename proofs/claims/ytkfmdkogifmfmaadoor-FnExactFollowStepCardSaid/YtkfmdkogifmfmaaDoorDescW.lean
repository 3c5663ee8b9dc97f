/- The shapes of rules: l4Shape and plainRule, at each pattern of flags that is called. Conditions: the rule's slices read as its lists. -/
import Derived.Test.YtkfmdkogifmfmaaDoorDescV
import Derived.WalkSpells
import Derived.WalkLawsBesides
namespace Go.Proofs.YtkfmdkogifmfmaaDoor
set_option linter.unusedSimpArgs false
set_option linter.unusedVariables false
open Go.RowKit
def plainR (r : RuleD) (sz bt nm tg : Bool) (K : Int) : Bool :=
  (sz || r.size == 0) && ((bt || (r.bytes.length : Int) == 0) && ((nm || (r.names.length : Int) == 0) && ((tg || (r.tags.length : Int) == 0) && (decide (K < 0) || (r.kids.length : Int) == K))))
def shapeR (r : RuleD) (sz bt nm tg : Bool) (K : Int) : Bool := plainR r sz bt nm tg K && (!r.little || r.kind == 1)

set_option maxHeartbeats 2000000 in
theorem specShape_i (r : RM) (B : Nat) (K : Int) (w : World) (h : r.rd w B) :
    Calls Tryd.prog 64 #[rmV r, .bool true, .bool false, .bool false, .bool false, .int .i64 K] w fun e w' => e = .returned (.bool (shapeR r.d true false false false K)) ∧ Below w.heap.size w w' := by
  obtain ⟨⟨name, kind, size, little, bytes, names, tags, kids⟩, vb, vn, vt, vk⟩ := r
  have h1 : SlB w B vb bytes := h.b
  have h2 : SlS w B vn names := h.n
  have h3 : SlI w B vt tags := h.t
  have h4 : SlI w B vk kids := h.k
  clear h
  obtain ⟨Ab, cb, rfl, hb1, hb2, x1⟩ := h1.open_
  obtain ⟨An, cn, rfl, hn1, hn2, x2⟩ := h2.one
  obtain ⟨At, ct, rfl, ht1, ht2, x3⟩ := h3.one
  obtain ⟨Ak, ck, rfl, hk1, hk2, x4⟩ := h4.one
  clear h1 h2 h3 h4 x1 x2 x3 x4
  unfold rmV
  simp only
  unfold maxLen at hb2 hn2 ht2 hk2
  have hb := Below.allocW w (.cells #[.string name, .int .i64 kind, .int .i64 size, .bool little, .slice Ab bytes.length cb, .slice An names.length cn, .slice At tags.length ct, .slice Ak kids.length ck] 58) (Nat.le_refl _)
  cases h1 : (((bytes.length : Nat) : Int) == 0)
  · skip
    have H := Lib.hid (show shapeR ⟨name, kind, size, little, bytes, names, tags, kids⟩ true false false false K = false by simp only [shapeR, plainR]; rw [h1]; rfl)
    go_enter Tryd.func64, Tryd.ntmps64
    go_wp2
    go_ret
    exact ⟨ret_bool H.out.symm, hb⟩
  · skip
    cases h2 : (((names.length : Nat) : Int) == 0)
    · skip
      have H := Lib.hid (show shapeR ⟨name, kind, size, little, bytes, names, tags, kids⟩ true false false false K = false by simp only [shapeR, plainR]; rw [h1, h2]; rfl)
      go_enter Tryd.func64, Tryd.ntmps64
      go_wp2
      go_ret
      exact ⟨ret_bool H.out.symm, hb⟩
    · skip
      cases h3 : (((tags.length : Nat) : Int) == 0)
      · skip
        have H := Lib.hid (show shapeR ⟨name, kind, size, little, bytes, names, tags, kids⟩ true false false false K = false by simp only [shapeR, plainR]; rw [h1, h2, h3]; rfl)
        go_enter Tryd.func64, Tryd.ntmps64
        go_wp2
        go_ret
        exact ⟨ret_bool H.out.symm, hb⟩
      · skip
        cases hK : decide (K < 0)
        · cases hk : ((kids.length : Int) == K)
          · skip
            have H := Lib.hid (show shapeR ⟨name, kind, size, little, bytes, names, tags, kids⟩ true false false false K = false by simp only [shapeR, plainR]; rw [h1, h2, h3, hK, hk]; rfl)
            go_enter Tryd.func64, Tryd.ntmps64
            go_wp2
            go_ret
            exact ⟨ret_bool H.out.symm, hb⟩
          · skip
            cases little
            · skip
              have H := Lib.hid (show shapeR ⟨name, kind, size, false, bytes, names, tags, kids⟩ true false false false K = true by simp only [shapeR, plainR]; rw [h1, h2, h3, hK, hk]; rfl)
              go_enter Tryd.func64, Tryd.ntmps64
              go_wp2
              go_ret
              exact ⟨ret_bool H.out.symm, hb⟩
            · cases hq : (kind == 1)
              · skip
                have H := Lib.hid (show shapeR ⟨name, kind, size, true, bytes, names, tags, kids⟩ true false false false K = false by simp only [shapeR, plainR]; rw [h1, h2, h3, hK, hk, hq]; rfl)
                go_enter Tryd.func64, Tryd.ntmps64
                go_wp2
                go_ret
                exact ⟨ret_bool H.out.symm, hb⟩
              · skip
                have H := Lib.hid (show shapeR ⟨name, kind, size, true, bytes, names, tags, kids⟩ true false false false K = true by simp only [shapeR, plainR]; rw [h1, h2, h3, hK, hk, hq]; rfl)
                go_enter Tryd.func64, Tryd.ntmps64
                go_wp2
                go_ret
                exact ⟨ret_bool H.out.symm, hb⟩
        · skip
          cases little
          · skip
            have H := Lib.hid (show shapeR ⟨name, kind, size, false, bytes, names, tags, kids⟩ true false false false K = true by simp only [shapeR, plainR]; rw [h1, h2, h3, hK]; rfl)
            go_enter Tryd.func64, Tryd.ntmps64
            go_wp2
            go_ret
            exact ⟨ret_bool H.out.symm, hb⟩
          · cases hq : (kind == 1)
            · skip
              have H := Lib.hid (show shapeR ⟨name, kind, size, true, bytes, names, tags, kids⟩ true false false false K = false by simp only [shapeR, plainR]; rw [h1, h2, h3, hK, hq]; rfl)
              go_enter Tryd.func64, Tryd.ntmps64
              go_wp2
              go_ret
              exact ⟨ret_bool H.out.symm, hb⟩
            · skip
              have H := Lib.hid (show shapeR ⟨name, kind, size, true, bytes, names, tags, kids⟩ true false false false K = true by simp only [shapeR, plainR]; rw [h1, h2, h3, hK, hq]; rfl)
              go_enter Tryd.func64, Tryd.ntmps64
              go_wp2
              go_ret
              exact ⟨ret_bool H.out.symm, hb⟩
set_option maxHeartbeats 2000000 in
theorem specShape_b (r : RM) (B : Nat) (K : Int) (w : World) (h : r.rd w B) :
    Calls Tryd.prog 64 #[rmV r, .bool false, .bool true, .bool false, .bool false, .int .i64 K] w fun e w' => e = .returned (.bool (shapeR r.d false true false false K)) ∧ Below w.heap.size w w' := by
  obtain ⟨⟨name, kind, size, little, bytes, names, tags, kids⟩, vb, vn, vt, vk⟩ := r
  have h1 : SlB w B vb bytes := h.b
  have h2 : SlS w B vn names := h.n
  have h3 : SlI w B vt tags := h.t
  have h4 : SlI w B vk kids := h.k
  clear h
  obtain ⟨Ab, cb, rfl, hb1, hb2, x1⟩ := h1.open_
  obtain ⟨An, cn, rfl, hn1, hn2, x2⟩ := h2.one
  obtain ⟨At, ct, rfl, ht1, ht2, x3⟩ := h3.one
  obtain ⟨Ak, ck, rfl, hk1, hk2, x4⟩ := h4.one
  clear h1 h2 h3 h4 x1 x2 x3 x4
  unfold rmV
  simp only
  unfold maxLen at hb2 hn2 ht2 hk2
  have hb := Below.allocW w (.cells #[.string name, .int .i64 kind, .int .i64 size, .bool little, .slice Ab bytes.length cb, .slice An names.length cn, .slice At tags.length ct, .slice Ak kids.length ck] 58) (Nat.le_refl _)
  cases h0 : (size == 0)
  · skip
    have H := Lib.hid (show shapeR ⟨name, kind, size, little, bytes, names, tags, kids⟩ false true false false K = false by simp only [shapeR, plainR]; rw [h0]; rfl)
    go_enter Tryd.func64, Tryd.ntmps64
    go_wp2
    go_ret
    exact ⟨ret_bool H.out.symm, hb⟩
  · skip
    cases h2 : (((names.length : Nat) : Int) == 0)
    · skip
      have H := Lib.hid (show shapeR ⟨name, kind, size, little, bytes, names, tags, kids⟩ false true false false K = false by simp only [shapeR, plainR]; rw [h0, h2]; rfl)
      go_enter Tryd.func64, Tryd.ntmps64
      go_wp2
      go_ret
      exact ⟨ret_bool H.out.symm, hb⟩
    · skip
      cases h3 : (((tags.length : Nat) : Int) == 0)
      · skip
        have H := Lib.hid (show shapeR ⟨name, kind, size, little, bytes, names, tags, kids⟩ false true false false K = false by simp only [shapeR, plainR]; rw [h0, h2, h3]; rfl)
        go_enter Tryd.func64, Tryd.ntmps64
        go_wp2
        go_ret
        exact ⟨ret_bool H.out.symm, hb⟩
      · skip
        cases hK : decide (K < 0)
        · cases hk : ((kids.length : Int) == K)
          · skip
            have H := Lib.hid (show shapeR ⟨name, kind, size, little, bytes, names, tags, kids⟩ false true false false K = false by simp only [shapeR, plainR]; rw [h0, h2, h3, hK, hk]; rfl)
            go_enter Tryd.func64, Tryd.ntmps64
            go_wp2
            go_ret
            exact ⟨ret_bool H.out.symm, hb⟩
          · skip
            cases little
            · skip
              have H := Lib.hid (show shapeR ⟨name, kind, size, false, bytes, names, tags, kids⟩ false true false false K = true by simp only [shapeR, plainR]; rw [h0, h2, h3, hK, hk]; rfl)
              go_enter Tryd.func64, Tryd.ntmps64
              go_wp2
              go_ret
              exact ⟨ret_bool H.out.symm, hb⟩
            · cases hq : (kind == 1)
              · skip
                have H := Lib.hid (show shapeR ⟨name, kind, size, true, bytes, names, tags, kids⟩ false true false false K = false by simp only [shapeR, plainR]; rw [h0, h2, h3, hK, hk, hq]; rfl)
                go_enter Tryd.func64, Tryd.ntmps64
                go_wp2
                go_ret
                exact ⟨ret_bool H.out.symm, hb⟩
              · skip
                have H := Lib.hid (show shapeR ⟨name, kind, size, true, bytes, names, tags, kids⟩ false true false false K = true by simp only [shapeR, plainR]; rw [h0, h2, h3, hK, hk, hq]; rfl)
                go_enter Tryd.func64, Tryd.ntmps64
                go_wp2
                go_ret
                exact ⟨ret_bool H.out.symm, hb⟩
        · skip
          cases little
          · skip
            have H := Lib.hid (show shapeR ⟨name, kind, size, false, bytes, names, tags, kids⟩ false true false false K = true by simp only [shapeR, plainR]; rw [h0, h2, h3, hK]; rfl)
            go_enter Tryd.func64, Tryd.ntmps64
            go_wp2
            go_ret
            exact ⟨ret_bool H.out.symm, hb⟩
          · cases hq : (kind == 1)
            · skip
              have H := Lib.hid (show shapeR ⟨name, kind, size, true, bytes, names, tags, kids⟩ false true false false K = false by simp only [shapeR, plainR]; rw [h0, h2, h3, hK, hq]; rfl)
              go_enter Tryd.func64, Tryd.ntmps64
              go_wp2
              go_ret
              exact ⟨ret_bool H.out.symm, hb⟩
            · skip
              have H := Lib.hid (show shapeR ⟨name, kind, size, true, bytes, names, tags, kids⟩ false true false false K = true by simp only [shapeR, plainR]; rw [h0, h2, h3, hK, hq]; rfl)
              go_enter Tryd.func64, Tryd.ntmps64
              go_wp2
              go_ret
              exact ⟨ret_bool H.out.symm, hb⟩
set_option maxHeartbeats 2000000 in
theorem specShape_n (r : RM) (B : Nat) (K : Int) (w : World) (h : r.rd w B) :
    Calls Tryd.prog 64 #[rmV r, .bool false, .bool false, .bool true, .bool false, .int .i64 K] w fun e w' => e = .returned (.bool (shapeR r.d false false true false K)) ∧ Below w.heap.size w w' := by
  obtain ⟨⟨name, kind, size, little, bytes, names, tags, kids⟩, vb, vn, vt, vk⟩ := r
  have h1 : SlB w B vb bytes := h.b
  have h2 : SlS w B vn names := h.n
  have h3 : SlI w B vt tags := h.t
  have h4 : SlI w B vk kids := h.k
  clear h
  obtain ⟨Ab, cb, rfl, hb1, hb2, x1⟩ := h1.open_
  obtain ⟨An, cn, rfl, hn1, hn2, x2⟩ := h2.one
  obtain ⟨At, ct, rfl, ht1, ht2, x3⟩ := h3.one
  obtain ⟨Ak, ck, rfl, hk1, hk2, x4⟩ := h4.one
  clear h1 h2 h3 h4 x1 x2 x3 x4
  unfold rmV
  simp only
  unfold maxLen at hb2 hn2 ht2 hk2
  have hb := Below.allocW w (.cells #[.string name, .int .i64 kind, .int .i64 size, .bool little, .slice Ab bytes.length cb, .slice An names.length cn, .slice At tags.length ct, .slice Ak kids.length ck] 58) (Nat.le_refl _)
  cases h0 : (size == 0)
  · skip
    have H := Lib.hid (show shapeR ⟨name, kind, size, little, bytes, names, tags, kids⟩ false false true false K = false by simp only [shapeR, plainR]; rw [h0]; rfl)
    go_enter Tryd.func64, Tryd.ntmps64
    go_wp2
    go_ret
    exact ⟨ret_bool H.out.symm, hb⟩
  · skip
    cases h1 : (((bytes.length : Nat) : Int) == 0)
    · skip
      have H := Lib.hid (show shapeR ⟨name, kind, size, little, bytes, names, tags, kids⟩ false false true false K = false by simp only [shapeR, plainR]; rw [h0, h1]; rfl)
      go_enter Tryd.func64, Tryd.ntmps64
      go_wp2
      go_ret
      exact ⟨ret_bool H.out.symm, hb⟩
    · skip
      cases h3 : (((tags.length : Nat) : Int) == 0)
      · skip
        have H := Lib.hid (show shapeR ⟨name, kind, size, little, bytes, names, tags, kids⟩ false false true false K = false by simp only [shapeR, plainR]; rw [h0, h1, h3]; rfl)
        go_enter Tryd.func64, Tryd.ntmps64
        go_wp2
        go_ret
        exact ⟨ret_bool H.out.symm, hb⟩
      · skip
        cases hK : decide (K < 0)
        · cases hk : ((kids.length : Int) == K)
          · skip
            have H := Lib.hid (show shapeR ⟨name, kind, size, little, bytes, names, tags, kids⟩ false false true false K = false by simp only [shapeR, plainR]; rw [h0, h1, h3, hK, hk]; rfl)
            go_enter Tryd.func64, Tryd.ntmps64
            go_wp2
            go_ret
            exact ⟨ret_bool H.out.symm, hb⟩
          · skip
            cases little
            · skip
              have H := Lib.hid (show shapeR ⟨name, kind, size, false, bytes, names, tags, kids⟩ false false true false K = true by simp only [shapeR, plainR]; rw [h0, h1, h3, hK, hk]; rfl)
              go_enter Tryd.func64, Tryd.ntmps64
              go_wp2
              go_ret
              exact ⟨ret_bool H.out.symm, hb⟩
            · cases hq : (kind == 1)
              · skip
                have H := Lib.hid (show shapeR ⟨name, kind, size, true, bytes, names, tags, kids⟩ false false true false K = false by simp only [shapeR, plainR]; rw [h0, h1, h3, hK, hk, hq]; rfl)
                go_enter Tryd.func64, Tryd.ntmps64
                go_wp2
                go_ret
                exact ⟨ret_bool H.out.symm, hb⟩
              · skip
                have H := Lib.hid (show shapeR ⟨name, kind, size, true, bytes, names, tags, kids⟩ false false true false K = true by simp only [shapeR, plainR]; rw [h0, h1, h3, hK, hk, hq]; rfl)
                go_enter Tryd.func64, Tryd.ntmps64
                go_wp2
                go_ret
                exact ⟨ret_bool H.out.symm, hb⟩
        · skip
          cases little
          · skip
            have H := Lib.hid (show shapeR ⟨name, kind, size, false, bytes, names, tags, kids⟩ false false true false K = true by simp only [shapeR, plainR]; rw [h0, h1, h3, hK]; rfl)
            go_enter Tryd.func64, Tryd.ntmps64
            go_wp2
            go_ret
            exact ⟨ret_bool H.out.symm, hb⟩
          · cases hq : (kind == 1)
            · skip
              have H := Lib.hid (show shapeR ⟨name, kind, size, true, bytes, names, tags, kids⟩ false false true false K = false by simp only [shapeR, plainR]; rw [h0, h1, h3, hK, hq]; rfl)
              go_enter Tryd.func64, Tryd.ntmps64
              go_wp2
              go_ret
              exact ⟨ret_bool H.out.symm, hb⟩
            · skip
              have H := Lib.hid (show shapeR ⟨name, kind, size, true, bytes, names, tags, kids⟩ false false true false K = true by simp only [shapeR, plainR]; rw [h0, h1, h3, hK, hq]; rfl)
              go_enter Tryd.func64, Tryd.ntmps64
              go_wp2
              go_ret
              exact ⟨ret_bool H.out.symm, hb⟩
set_option maxHeartbeats 2000000 in
theorem specShape_t (r : RM) (B : Nat) (K : Int) (w : World) (h : r.rd w B) :
    Calls Tryd.prog 64 #[rmV r, .bool false, .bool false, .bool false, .bool true, .int .i64 K] w fun e w' => e = .returned (.bool (shapeR r.d false false false true K)) ∧ Below w.heap.size w w' := by
  obtain ⟨⟨name, kind, size, little, bytes, names, tags, kids⟩, vb, vn, vt, vk⟩ := r
  have h1 : SlB w B vb bytes := h.b
  have h2 : SlS w B vn names := h.n
  have h3 : SlI w B vt tags := h.t
  have h4 : SlI w B vk kids := h.k
  clear h
  obtain ⟨Ab, cb, rfl, hb1, hb2, x1⟩ := h1.open_
  obtain ⟨An, cn, rfl, hn1, hn2, x2⟩ := h2.one
  obtain ⟨At, ct, rfl, ht1, ht2, x3⟩ := h3.one
  obtain ⟨Ak, ck, rfl, hk1, hk2, x4⟩ := h4.one
  clear h1 h2 h3 h4 x1 x2 x3 x4
  unfold rmV
  simp only
  unfold maxLen at hb2 hn2 ht2 hk2
  have hb := Below.allocW w (.cells #[.string name, .int .i64 kind, .int .i64 size, .bool little, .slice Ab bytes.length cb, .slice An names.length cn, .slice At tags.length ct, .slice Ak kids.length ck] 58) (Nat.le_refl _)
  cases h0 : (size == 0)
  · skip
    have H := Lib.hid (show shapeR ⟨name, kind, size, little, bytes, names, tags, kids⟩ false false false true K = false by simp only [shapeR, plainR]; rw [h0]; rfl)
    go_enter Tryd.func64, Tryd.ntmps64
    go_wp2
    go_ret
    exact ⟨ret_bool H.out.symm, hb⟩
  · skip
    cases h1 : (((bytes.length : Nat) : Int) == 0)
    · skip
      have H := Lib.hid (show shapeR ⟨name, kind, size, little, bytes, names, tags, kids⟩ false false false true K = false by simp only [shapeR, plainR]; rw [h0, h1]; rfl)
      go_enter Tryd.func64, Tryd.ntmps64
      go_wp2
      go_ret
      exact ⟨ret_bool H.out.symm, hb⟩
    · skip
      cases h2 : (((names.length : Nat) : Int) == 0)
      · skip
        have H := Lib.hid (show shapeR ⟨name, kind, size, little, bytes, names, tags, kids⟩ false false false true K = false by simp only [shapeR, plainR]; rw [h0, h1, h2]; rfl)
        go_enter Tryd.func64, Tryd.ntmps64
        go_wp2
        go_ret
        exact ⟨ret_bool H.out.symm, hb⟩
      · skip
        cases hK : decide (K < 0)
        · cases hk : ((kids.length : Int) == K)
          · skip
            have H := Lib.hid (show shapeR ⟨name, kind, size, little, bytes, names, tags, kids⟩ false false false true K = false by simp only [shapeR, plainR]; rw [h0, h1, h2, hK, hk]; rfl)
            go_enter Tryd.func64, Tryd.ntmps64
            go_wp2
            go_ret
            exact ⟨ret_bool H.out.symm, hb⟩
          · skip
            cases little
            · skip
              have H := Lib.hid (show shapeR ⟨name, kind, size, false, bytes, names, tags, kids⟩ false false false true K = true by simp only [shapeR, plainR]; rw [h0, h1, h2, hK, hk]; rfl)
              go_enter Tryd.func64, Tryd.ntmps64
              go_wp2
              go_ret
              exact ⟨ret_bool H.out.symm, hb⟩
            · cases hq : (kind == 1)
              · skip
                have H := Lib.hid (show shapeR ⟨name, kind, size, true, bytes, names, tags, kids⟩ false false false true K = false by simp only [shapeR, plainR]; rw [h0, h1, h2, hK, hk, hq]; rfl)
                go_enter Tryd.func64, Tryd.ntmps64
                go_wp2
                go_ret
                exact ⟨ret_bool H.out.symm, hb⟩
              · skip
                have H := Lib.hid (show shapeR ⟨name, kind, size, true, bytes, names, tags, kids⟩ false false false true K = true by simp only [shapeR, plainR]; rw [h0, h1, h2, hK, hk, hq]; rfl)
                go_enter Tryd.func64, Tryd.ntmps64
                go_wp2
                go_ret
                exact ⟨ret_bool H.out.symm, hb⟩
        · skip
          cases little
          · skip
            have H := Lib.hid (show shapeR ⟨name, kind, size, false, bytes, names, tags, kids⟩ false false false true K = true by simp only [shapeR, plainR]; rw [h0, h1, h2, hK]; rfl)
            go_enter Tryd.func64, Tryd.ntmps64
            go_wp2
            go_ret
            exact ⟨ret_bool H.out.symm, hb⟩
          · cases hq : (kind == 1)
            · skip
              have H := Lib.hid (show shapeR ⟨name, kind, size, true, bytes, names, tags, kids⟩ false false false true K = false by simp only [shapeR, plainR]; rw [h0, h1, h2, hK, hq]; rfl)
              go_enter Tryd.func64, Tryd.ntmps64
              go_wp2
              go_ret
              exact ⟨ret_bool H.out.symm, hb⟩
            · skip
              have H := Lib.hid (show shapeR ⟨name, kind, size, true, bytes, names, tags, kids⟩ false false false true K = true by simp only [shapeR, plainR]; rw [h0, h1, h2, hK, hq]; rfl)
              go_enter Tryd.func64, Tryd.ntmps64
              go_wp2
              go_ret
              exact ⟨ret_bool H.out.symm, hb⟩
set_option maxHeartbeats 2000000 in
theorem specShape_o (r : RM) (B : Nat) (K : Int) (w : World) (h : r.rd w B) :
    Calls Tryd.prog 64 #[rmV r, .bool false, .bool false, .bool false, .bool false, .int .i64 K] w fun e w' => e = .returned (.bool (shapeR r.d false false false false K)) ∧ Below w.heap.size w w' := by
  obtain ⟨⟨name, kind, size, little, bytes, names, tags, kids⟩, vb, vn, vt, vk⟩ := r
  have h1 : SlB w B vb bytes := h.b
  have h2 : SlS w B vn names := h.n
  have h3 : SlI w B vt tags := h.t
  have h4 : SlI w B vk kids := h.k
  clear h
  obtain ⟨Ab, cb, rfl, hb1, hb2, x1⟩ := h1.open_
  obtain ⟨An, cn, rfl, hn1, hn2, x2⟩ := h2.one
  obtain ⟨At, ct, rfl, ht1, ht2, x3⟩ := h3.one
  obtain ⟨Ak, ck, rfl, hk1, hk2, x4⟩ := h4.one
  clear h1 h2 h3 h4 x1 x2 x3 x4
  unfold rmV
  simp only
  unfold maxLen at hb2 hn2 ht2 hk2
  have hb := Below.allocW w (.cells #[.string name, .int .i64 kind, .int .i64 size, .bool little, .slice Ab bytes.length cb, .slice An names.length cn, .slice At tags.length ct, .slice Ak kids.length ck] 58) (Nat.le_refl _)
  cases h0 : (size == 0)
  · skip
    have H := Lib.hid (show shapeR ⟨name, kind, size, little, bytes, names, tags, kids⟩ false false false false K = false by simp only [shapeR, plainR]; rw [h0]; rfl)
    go_enter Tryd.func64, Tryd.ntmps64
    go_wp2
    go_ret
    exact ⟨ret_bool H.out.symm, hb⟩
  · skip
    cases h1 : (((bytes.length : Nat) : Int) == 0)
    · skip
      have H := Lib.hid (show shapeR ⟨name, kind, size, little, bytes, names, tags, kids⟩ false false false false K = false by simp only [shapeR, plainR]; rw [h0, h1]; rfl)
      go_enter Tryd.func64, Tryd.ntmps64
      go_wp2
      go_ret
      exact ⟨ret_bool H.out.symm, hb⟩
    · skip
      cases h2 : (((names.length : Nat) : Int) == 0)
      · skip
        have H := Lib.hid (show shapeR ⟨name, kind, size, little, bytes, names, tags, kids⟩ false false false false K = false by simp only [shapeR, plainR]; rw [h0, h1, h2]; rfl)
        go_enter Tryd.func64, Tryd.ntmps64
        go_wp2
        go_ret
        exact ⟨ret_bool H.out.symm, hb⟩
      · skip
        cases h3 : (((tags.length : Nat) : Int) == 0)
        · skip
          have H := Lib.hid (show shapeR ⟨name, kind, size, little, bytes, names, tags, kids⟩ false false false false K = false by simp only [shapeR, plainR]; rw [h0, h1, h2, h3]; rfl)
          go_enter Tryd.func64, Tryd.ntmps64
          go_wp2
          go_ret
          exact ⟨ret_bool H.out.symm, hb⟩
        · skip
          cases hK : decide (K < 0)
          · cases hk : ((kids.length : Int) == K)
            · skip
              have H := Lib.hid (show shapeR ⟨name, kind, size, little, bytes, names, tags, kids⟩ false false false false K = false by simp only [shapeR, plainR]; rw [h0, h1, h2, h3, hK, hk]; rfl)
              go_enter Tryd.func64, Tryd.ntmps64
              go_wp2
              go_ret
              exact ⟨ret_bool H.out.symm, hb⟩
            · skip
              cases little
              · skip
                have H := Lib.hid (show shapeR ⟨name, kind, size, false, bytes, names, tags, kids⟩ false false false false K = true by simp only [shapeR, plainR]; rw [h0, h1, h2, h3, hK, hk]; rfl)
                go_enter Tryd.func64, Tryd.ntmps64
                go_wp2
                go_ret
                exact ⟨ret_bool H.out.symm, hb⟩
              · cases hq : (kind == 1)
                · skip
                  have H := Lib.hid (show shapeR ⟨name, kind, size, true, bytes, names, tags, kids⟩ false false false false K = false by simp only [shapeR, plainR]; rw [h0, h1, h2, h3, hK, hk, hq]; rfl)
                  go_enter Tryd.func64, Tryd.ntmps64
                  go_wp2
                  go_ret
                  exact ⟨ret_bool H.out.symm, hb⟩
                · skip
                  have H := Lib.hid (show shapeR ⟨name, kind, size, true, bytes, names, tags, kids⟩ false false false false K = true by simp only [shapeR, plainR]; rw [h0, h1, h2, h3, hK, hk, hq]; rfl)
                  go_enter Tryd.func64, Tryd.ntmps64
                  go_wp2
                  go_ret
                  exact ⟨ret_bool H.out.symm, hb⟩
          · skip
            cases little
            · skip
              have H := Lib.hid (show shapeR ⟨name, kind, size, false, bytes, names, tags, kids⟩ false false false false K = true by simp only [shapeR, plainR]; rw [h0, h1, h2, h3, hK]; rfl)
              go_enter Tryd.func64, Tryd.ntmps64
              go_wp2
              go_ret
              exact ⟨ret_bool H.out.symm, hb⟩
            · cases hq : (kind == 1)
              · skip
                have H := Lib.hid (show shapeR ⟨name, kind, size, true, bytes, names, tags, kids⟩ false false false false K = false by simp only [shapeR, plainR]; rw [h0, h1, h2, h3, hK, hq]; rfl)
                go_enter Tryd.func64, Tryd.ntmps64
                go_wp2
                go_ret
                exact ⟨ret_bool H.out.symm, hb⟩
              · skip
                have H := Lib.hid (show shapeR ⟨name, kind, size, true, bytes, names, tags, kids⟩ false false false false K = true by simp only [shapeR, plainR]; rw [h0, h1, h2, h3, hK, hq]; rfl)
                go_enter Tryd.func64, Tryd.ntmps64
                go_wp2
                go_ret
                exact ⟨ret_bool H.out.symm, hb⟩
set_option maxHeartbeats 2000000 in
theorem implPlain_i (r : RM) (B : Nat) (K : Int) (w : World) (h : r.rd w B) :
    Calls Tryd.prog 68 #[rmV r, .bool true, .bool false, .bool false, .bool false, .int .i64 K] w fun e w' => e = .returned (.bool (plainR r.d true false false false K)) ∧ Below w.heap.size w w' := by
  obtain ⟨⟨name, kind, size, little, bytes, names, tags, kids⟩, vb, vn, vt, vk⟩ := r
  have h1 : SlB w B vb bytes := h.b
  have h2 : SlS w B vn names := h.n
  have h3 : SlI w B vt tags := h.t
  have h4 : SlI w B vk kids := h.k
  clear h
  obtain ⟨Ab, cb, rfl, hb1, hb2, x1⟩ := h1.open_
  obtain ⟨An, cn, rfl, hn1, hn2, x2⟩ := h2.one
  obtain ⟨At, ct, rfl, ht1, ht2, x3⟩ := h3.one
  obtain ⟨Ak, ck, rfl, hk1, hk2, x4⟩ := h4.one
  clear h1 h2 h3 h4 x1 x2 x3 x4
  unfold rmV
  simp only
  unfold maxLen at hb2 hn2 ht2 hk2
  have hb := Below.allocW w (.cells #[.string name, .int .i64 kind, .int .i64 size, .bool little, .slice Ab bytes.length cb, .slice An names.length cn, .slice At tags.length ct, .slice Ak kids.length ck] 58) (Nat.le_refl _)
  cases h1 : (((bytes.length : Nat) : Int) == 0)
  · skip
    have H := Lib.hid (show plainR ⟨name, kind, size, little, bytes, names, tags, kids⟩ true false false false K = false by simp only [shapeR, plainR]; rw [h1]; rfl)
    go_enter Tryd.func68, Tryd.ntmps68
    go_wp2
    go_ret
    exact ⟨ret_bool H.out.symm, hb⟩
  · skip
    cases h2 : (((names.length : Nat) : Int) == 0)
    · skip
      have H := Lib.hid (show plainR ⟨name, kind, size, little, bytes, names, tags, kids⟩ true false false false K = false by simp only [shapeR, plainR]; rw [h1, h2]; rfl)
      go_enter Tryd.func68, Tryd.ntmps68
      go_wp2
      go_ret
      exact ⟨ret_bool H.out.symm, hb⟩
    · skip
      cases h3 : (((tags.length : Nat) : Int) == 0)
      · skip
        have H := Lib.hid (show plainR ⟨name, kind, size, little, bytes, names, tags, kids⟩ true false false false K = false by simp only [shapeR, plainR]; rw [h1, h2, h3]; rfl)
        go_enter Tryd.func68, Tryd.ntmps68
        go_wp2
        go_ret
        exact ⟨ret_bool H.out.symm, hb⟩
      · skip
        cases hK : decide (K < 0)
        · cases hk : ((kids.length : Int) == K)
          · skip
            have H := Lib.hid (show plainR ⟨name, kind, size, little, bytes, names, tags, kids⟩ true false false false K = false by simp only [shapeR, plainR]; rw [h1, h2, h3, hK, hk]; rfl)
            go_enter Tryd.func68, Tryd.ntmps68
            go_wp2
            go_ret
            exact ⟨ret_bool H.out.symm, hb⟩
          · skip
            have H := Lib.hid (show plainR ⟨name, kind, size, little, bytes, names, tags, kids⟩ true false false false K = true by simp only [shapeR, plainR]; rw [h1, h2, h3, hK, hk]; rfl)
            go_enter Tryd.func68, Tryd.ntmps68
            go_wp2
            go_ret
            exact ⟨ret_bool H.out.symm, hb⟩
        · skip
          have H := Lib.hid (show plainR ⟨name, kind, size, little, bytes, names, tags, kids⟩ true false false false K = true by simp only [shapeR, plainR]; rw [h1, h2, h3, hK]; rfl)
          go_enter Tryd.func68, Tryd.ntmps68
          go_wp2
          go_ret
          exact ⟨ret_bool H.out.symm, hb⟩
set_option maxHeartbeats 2000000 in
theorem implPlain_b (r : RM) (B : Nat) (K : Int) (w : World) (h : r.rd w B) :
    Calls Tryd.prog 68 #[rmV r, .bool false, .bool true, .bool false, .bool false, .int .i64 K] w fun e w' => e = .returned (.bool (plainR r.d false true false false K)) ∧ Below w.heap.size w w' := by
  obtain ⟨⟨name, kind, size, little, bytes, names, tags, kids⟩, vb, vn, vt, vk⟩ := r
  have h1 : SlB w B vb bytes := h.b
  have h2 : SlS w B vn names := h.n
  have h3 : SlI w B vt tags := h.t
  have h4 : SlI w B vk kids := h.k
  clear h
  obtain ⟨Ab, cb, rfl, hb1, hb2, x1⟩ := h1.open_
  obtain ⟨An, cn, rfl, hn1, hn2, x2⟩ := h2.one
  obtain ⟨At, ct, rfl, ht1, ht2, x3⟩ := h3.one
  obtain ⟨Ak, ck, rfl, hk1, hk2, x4⟩ := h4.one
  clear h1 h2 h3 h4 x1 x2 x3 x4
  unfold rmV
  simp only
  unfold maxLen at hb2 hn2 ht2 hk2
  have hb := Below.allocW w (.cells #[.string name, .int .i64 kind, .int .i64 size, .bool little, .slice Ab bytes.length cb, .slice An names.length cn, .slice At tags.length ct, .slice Ak kids.length ck] 58) (Nat.le_refl _)
  cases h0 : (size == 0)
  · skip
    have H := Lib.hid (show plainR ⟨name, kind, size, little, bytes, names, tags, kids⟩ false true false false K = false by simp only [shapeR, plainR]; rw [h0]; rfl)
    go_enter Tryd.func68, Tryd.ntmps68
    go_wp2
    go_ret
    exact ⟨ret_bool H.out.symm, hb⟩
  · skip
    cases h2 : (((names.length : Nat) : Int) == 0)
    · skip
      have H := Lib.hid (show plainR ⟨name, kind, size, little, bytes, names, tags, kids⟩ false true false false K = false by simp only [shapeR, plainR]; rw [h0, h2]; rfl)
      go_enter Tryd.func68, Tryd.ntmps68
      go_wp2
      go_ret
      exact ⟨ret_bool H.out.symm, hb⟩
    · skip
      cases h3 : (((tags.length : Nat) : Int) == 0)
      · skip
        have H := Lib.hid (show plainR ⟨name, kind, size, little, bytes, names, tags, kids⟩ false true false false K = false by simp only [shapeR, plainR]; rw [h0, h2, h3]; rfl)
        go_enter Tryd.func68, Tryd.ntmps68
        go_wp2
        go_ret
        exact ⟨ret_bool H.out.symm, hb⟩
      · skip
        cases hK : decide (K < 0)
        · cases hk : ((kids.length : Int) == K)
          · skip
            have H := Lib.hid (show plainR ⟨name, kind, size, little, bytes, names, tags, kids⟩ false true false false K = false by simp only [shapeR, plainR]; rw [h0, h2, h3, hK, hk]; rfl)
            go_enter Tryd.func68, Tryd.ntmps68
            go_wp2
            go_ret
            exact ⟨ret_bool H.out.symm, hb⟩
          · skip
            have H := Lib.hid (show plainR ⟨name, kind, size, little, bytes, names, tags, kids⟩ false true false false K = true by simp only [shapeR, plainR]; rw [h0, h2, h3, hK, hk]; rfl)
            go_enter Tryd.func68, Tryd.ntmps68
            go_wp2
            go_ret
            exact ⟨ret_bool H.out.symm, hb⟩
        · skip
          have H := Lib.hid (show plainR ⟨name, kind, size, little, bytes, names, tags, kids⟩ false true false false K = true by simp only [shapeR, plainR]; rw [h0, h2, h3, hK]; rfl)
          go_enter Tryd.func68, Tryd.ntmps68
          go_wp2
          go_ret
          exact ⟨ret_bool H.out.symm, hb⟩
set_option maxHeartbeats 2000000 in
theorem implPlain_n (r : RM) (B : Nat) (K : Int) (w : World) (h : r.rd w B) :
    Calls Tryd.prog 68 #[rmV r, .bool false, .bool false, .bool true, .bool false, .int .i64 K] w fun e w' => e = .returned (.bool (plainR r.d false false true false K)) ∧ Below w.heap.size w w' := by
  obtain ⟨⟨name, kind, size, little, bytes, names, tags, kids⟩, vb, vn, vt, vk⟩ := r
  have h1 : SlB w B vb bytes := h.b
  have h2 : SlS w B vn names := h.n
  have h3 : SlI w B vt tags := h.t
  have h4 : SlI w B vk kids := h.k
  clear h
  obtain ⟨Ab, cb, rfl, hb1, hb2, x1⟩ := h1.open_
  obtain ⟨An, cn, rfl, hn1, hn2, x2⟩ := h2.one
  obtain ⟨At, ct, rfl, ht1, ht2, x3⟩ := h3.one
  obtain ⟨Ak, ck, rfl, hk1, hk2, x4⟩ := h4.one
  clear h1 h2 h3 h4 x1 x2 x3 x4
  unfold rmV
  simp only
  unfold maxLen at hb2 hn2 ht2 hk2
  have hb := Below.allocW w (.cells #[.string name, .int .i64 kind, .int .i64 size, .bool little, .slice Ab bytes.length cb, .slice An names.length cn, .slice At tags.length ct, .slice Ak kids.length ck] 58) (Nat.le_refl _)
  cases h0 : (size == 0)
  · skip
    have H := Lib.hid (show plainR ⟨name, kind, size, little, bytes, names, tags, kids⟩ false false true false K = false by simp only [shapeR, plainR]; rw [h0]; rfl)
    go_enter Tryd.func68, Tryd.ntmps68
    go_wp2
    go_ret
    exact ⟨ret_bool H.out.symm, hb⟩
  · skip
    cases h1 : (((bytes.length : Nat) : Int) == 0)
    · skip
      have H := Lib.hid (show plainR ⟨name, kind, size, little, bytes, names, tags, kids⟩ false false true false K = false by simp only [shapeR, plainR]; rw [h0, h1]; rfl)
      go_enter Tryd.func68, Tryd.ntmps68
      go_wp2
      go_ret
      exact ⟨ret_bool H.out.symm, hb⟩
    · skip
      cases h3 : (((tags.length : Nat) : Int) == 0)
      · skip
        have H := Lib.hid (show plainR ⟨name, kind, size, little, bytes, names, tags, kids⟩ false false true false K = false by simp only [shapeR, plainR]; rw [h0, h1, h3]; rfl)
        go_enter Tryd.func68, Tryd.ntmps68
        go_wp2
        go_ret
        exact ⟨ret_bool H.out.symm, hb⟩
      · skip
        cases hK : decide (K < 0)
        · cases hk : ((kids.length : Int) == K)
          · skip
            have H := Lib.hid (show plainR ⟨name, kind, size, little, bytes, names, tags, kids⟩ false false true false K = false by simp only [shapeR, plainR]; rw [h0, h1, h3, hK, hk]; rfl)
            go_enter Tryd.func68, Tryd.ntmps68
            go_wp2
            go_ret
            exact ⟨ret_bool H.out.symm, hb⟩
          · skip
            have H := Lib.hid (show plainR ⟨name, kind, size, little, bytes, names, tags, kids⟩ false false true false K = true by simp only [shapeR, plainR]; rw [h0, h1, h3, hK, hk]; rfl)
            go_enter Tryd.func68, Tryd.ntmps68
            go_wp2
            go_ret
            exact ⟨ret_bool H.out.symm, hb⟩
        · skip
          have H := Lib.hid (show plainR ⟨name, kind, size, little, bytes, names, tags, kids⟩ false false true false K = true by simp only [shapeR, plainR]; rw [h0, h1, h3, hK]; rfl)
          go_enter Tryd.func68, Tryd.ntmps68
          go_wp2
          go_ret
          exact ⟨ret_bool H.out.symm, hb⟩
set_option maxHeartbeats 2000000 in
theorem implPlain_t (r : RM) (B : Nat) (K : Int) (w : World) (h : r.rd w B) :
    Calls Tryd.prog 68 #[rmV r, .bool false, .bool false, .bool false, .bool true, .int .i64 K] w fun e w' => e = .returned (.bool (plainR r.d false false false true K)) ∧ Below w.heap.size w w' := by
  obtain ⟨⟨name, kind, size, little, bytes, names, tags, kids⟩, vb, vn, vt, vk⟩ := r
  have h1 : SlB w B vb bytes := h.b
  have h2 : SlS w B vn names := h.n
  have h3 : SlI w B vt tags := h.t
  have h4 : SlI w B vk kids := h.k
  clear h
  obtain ⟨Ab, cb, rfl, hb1, hb2, x1⟩ := h1.open_
  obtain ⟨An, cn, rfl, hn1, hn2, x2⟩ := h2.one
  obtain ⟨At, ct, rfl, ht1, ht2, x3⟩ := h3.one
  obtain ⟨Ak, ck, rfl, hk1, hk2, x4⟩ := h4.one
  clear h1 h2 h3 h4 x1 x2 x3 x4
  unfold rmV
  simp only
  unfold maxLen at hb2 hn2 ht2 hk2
  have hb := Below.allocW w (.cells #[.string name, .int .i64 kind, .int .i64 size, .bool little, .slice Ab bytes.length cb, .slice An names.length cn, .slice At tags.length ct, .slice Ak kids.length ck] 58) (Nat.le_refl _)
  cases h0 : (size == 0)
  · skip
    have H := Lib.hid (show plainR ⟨name, kind, size, little, bytes, names, tags, kids⟩ false false false true K = false by simp only [shapeR, plainR]; rw [h0]; rfl)
    go_enter Tryd.func68, Tryd.ntmps68
    go_wp2
    go_ret
    exact ⟨ret_bool H.out.symm, hb⟩
  · skip
    cases h1 : (((bytes.length : Nat) : Int) == 0)
    · skip
      have H := Lib.hid (show plainR ⟨name, kind, size, little, bytes, names, tags, kids⟩ false false false true K = false by simp only [shapeR, plainR]; rw [h0, h1]; rfl)
      go_enter Tryd.func68, Tryd.ntmps68
      go_wp2
      go_ret
      exact ⟨ret_bool H.out.symm, hb⟩
    · skip
      cases h2 : (((names.length : Nat) : Int) == 0)
      · skip
        have H := Lib.hid (show plainR ⟨name, kind, size, little, bytes, names, tags, kids⟩ false false false true K = false by simp only [shapeR, plainR]; rw [h0, h1, h2]; rfl)
        go_enter Tryd.func68, Tryd.ntmps68
        go_wp2
        go_ret
        exact ⟨ret_bool H.out.symm, hb⟩
      · skip
        cases hK : decide (K < 0)
        · cases hk : ((kids.length : Int) == K)
          · skip
            have H := Lib.hid (show plainR ⟨name, kind, size, little, bytes, names, tags, kids⟩ false false false true K = false by simp only [shapeR, plainR]; rw [h0, h1, h2, hK, hk]; rfl)
            go_enter Tryd.func68, Tryd.ntmps68
            go_wp2
            go_ret
            exact ⟨ret_bool H.out.symm, hb⟩
          · skip
            have H := Lib.hid (show plainR ⟨name, kind, size, little, bytes, names, tags, kids⟩ false false false true K = true by simp only [shapeR, plainR]; rw [h0, h1, h2, hK, hk]; rfl)
            go_enter Tryd.func68, Tryd.ntmps68
            go_wp2
            go_ret
            exact ⟨ret_bool H.out.symm, hb⟩
        · skip
          have H := Lib.hid (show plainR ⟨name, kind, size, little, bytes, names, tags, kids⟩ false false false true K = true by simp only [shapeR, plainR]; rw [h0, h1, h2, hK]; rfl)
          go_enter Tryd.func68, Tryd.ntmps68
          go_wp2
          go_ret
          exact ⟨ret_bool H.out.symm, hb⟩
set_option maxHeartbeats 2000000 in
theorem implPlain_o (r : RM) (B : Nat) (K : Int) (w : World) (h : r.rd w B) :
    Calls Tryd.prog 68 #[rmV r, .bool false, .bool false, .bool false, .bool false, .int .i64 K] w fun e w' => e = .returned (.bool (plainR r.d false false false false K)) ∧ Below w.heap.size w w' := by
  obtain ⟨⟨name, kind, size, little, bytes, names, tags, kids⟩, vb, vn, vt, vk⟩ := r
  have h1 : SlB w B vb bytes := h.b
  have h2 : SlS w B vn names := h.n
  have h3 : SlI w B vt tags := h.t
  have h4 : SlI w B vk kids := h.k
  clear h
  obtain ⟨Ab, cb, rfl, hb1, hb2, x1⟩ := h1.open_
  obtain ⟨An, cn, rfl, hn1, hn2, x2⟩ := h2.one
  obtain ⟨At, ct, rfl, ht1, ht2, x3⟩ := h3.one
  obtain ⟨Ak, ck, rfl, hk1, hk2, x4⟩ := h4.one
  clear h1 h2 h3 h4 x1 x2 x3 x4
  unfold rmV
  simp only
  unfold maxLen at hb2 hn2 ht2 hk2
  have hb := Below.allocW w (.cells #[.string name, .int .i64 kind, .int .i64 size, .bool little, .slice Ab bytes.length cb, .slice An names.length cn, .slice At tags.length ct, .slice Ak kids.length ck] 58) (Nat.le_refl _)
  cases h0 : (size == 0)
  · skip
    have H := Lib.hid (show plainR ⟨name, kind, size, little, bytes, names, tags, kids⟩ false false false false K = false by simp only [shapeR, plainR]; rw [h0]; rfl)
    go_enter Tryd.func68, Tryd.ntmps68
    go_wp2
    go_ret
    exact ⟨ret_bool H.out.symm, hb⟩
  · skip
    cases h1 : (((bytes.length : Nat) : Int) == 0)
    · skip
      have H := Lib.hid (show plainR ⟨name, kind, size, little, bytes, names, tags, kids⟩ false false false false K = false by simp only [shapeR, plainR]; rw [h0, h1]; rfl)
      go_enter Tryd.func68, Tryd.ntmps68
      go_wp2
      go_ret
      exact ⟨ret_bool H.out.symm, hb⟩
    · skip
      cases h2 : (((names.length : Nat) : Int) == 0)
      · skip
        have H := Lib.hid (show plainR ⟨name, kind, size, little, bytes, names, tags, kids⟩ false false false false K = false by simp only [shapeR, plainR]; rw [h0, h1, h2]; rfl)
        go_enter Tryd.func68, Tryd.ntmps68
        go_wp2
        go_ret
        exact ⟨ret_bool H.out.symm, hb⟩
      · skip
        cases h3 : (((tags.length : Nat) : Int) == 0)
        · skip
          have H := Lib.hid (show plainR ⟨name, kind, size, little, bytes, names, tags, kids⟩ false false false false K = false by simp only [shapeR, plainR]; rw [h0, h1, h2, h3]; rfl)
          go_enter Tryd.func68, Tryd.ntmps68
          go_wp2
          go_ret
          exact ⟨ret_bool H.out.symm, hb⟩
        · skip
          cases hK : decide (K < 0)
          · cases hk : ((kids.length : Int) == K)
            · skip
              have H := Lib.hid (show plainR ⟨name, kind, size, little, bytes, names, tags, kids⟩ false false false false K = false by simp only [shapeR, plainR]; rw [h0, h1, h2, h3, hK, hk]; rfl)
              go_enter Tryd.func68, Tryd.ntmps68
              go_wp2
              go_ret
              exact ⟨ret_bool H.out.symm, hb⟩
            · skip
              have H := Lib.hid (show plainR ⟨name, kind, size, little, bytes, names, tags, kids⟩ false false false false K = true by simp only [shapeR, plainR]; rw [h0, h1, h2, h3, hK, hk]; rfl)
              go_enter Tryd.func68, Tryd.ntmps68
              go_wp2
              go_ret
              exact ⟨ret_bool H.out.symm, hb⟩
          · skip
            have H := Lib.hid (show plainR ⟨name, kind, size, little, bytes, names, tags, kids⟩ false false false false K = true by simp only [shapeR, plainR]; rw [h0, h1, h2, h3, hK]; rfl)
            go_enter Tryd.func68, Tryd.ntmps68
            go_wp2
            go_ret
            exact ⟨ret_bool H.out.symm, hb⟩
end Go.Proofs.YtkfmdkogifmfmaaDoor
