/- The walks of validSequence and validChoice. Conditions: the rule reads as its data. -/
import Derived.Test.YtkfmdkogifmfmaaDoorDescX
import Derived.WalkSpells
import Derived.WalkLawsBesides
import Derived.Deep.RegionHeld3
namespace Go.Proofs.YtkfmdkogifmfmaaDoor
set_option linter.unusedSimpArgs false
set_option linter.unusedVariables false
open Go.RowKit
theorem neq_false {a b : Int} (h : a = b) : (a != b) = false := by subst h; simp
theorem neq_true {a b : Int} (h : a ≠ b) : (a != b) = true := by rw [bne_iff_ne]; exact h
set_option maxHeartbeats 2000000 in
set_option maxRecDepth 100000 in
theorem validSeq_any (r : RM) (B : Nat) (w : World) (hB : B ≤ w.heap.size) (hr : r.rd w B) (hk : r.d.ok) (hsm : r.d.small 1048576) :
    Calls Tryd.prog 70 #[rmV r] w fun e w' => e = .returned (.bool (plainR r.d false false true false r.d.names.length && okNames r.d.names)) ∧ Below w.heap.size w w' := by
  have hPL : ∀ W, Below w.heap.size w W → Calls Tryd.prog 68 #[rmV r, .bool false, .bool false, .bool true, .bool false, .int .i64 (-1)] W fun e w' => e = .returned (.bool (plainR r.d false false true false (-1))) ∧ Below W.heap.size W w' := fun W hb => implPlain_n r B _ W (hr.below (hb.mono hB))
  have hpl : plainR r.d false false true false r.d.names.length = (plainR r.d false false true false (-1) && ((r.d.kids.length : Int) == r.d.names.length)) := by
    unfold plainR
    have e1 : decide (((r.d.names.length : Nat) : Int) < 0) = false := decide_eq_false (by omega)
    rw [e1]
    simp [Bool.and_assoc]
  have HP := Lib.hid hpl
  clear hpl
  have hNM : ∀ W, Below w.heap.size w W → SlS W w.heap.size r.vn r.d.names := fun W hb => (hr.n.more hB).below hb
  generalize plainR r.d false false true false (-1) = pl at *
  obtain ⟨⟨name, kind, size, little, bytes, names, tags, kids⟩, vb, vn, vt, vk⟩ := r
  have h1 : SlB w B vb bytes := hr.b
  have h2 : SlS w B vn names := hr.n
  have h3 : SlI w B vt tags := hr.t
  have h4 : SlI w B vk kids := hr.k
  have hkn : ∀ s ∈ names, s.size ≤ maxLen := hk.names
  have hkt : ∀ a ∈ tags, InI64 a := hk.tags
  have hkk : ∀ a ∈ kids, InI64 a := hk.kids
  obtain ⟨z0, z1, z2, z3, z4, z5⟩ := hsm
  simp only at z0 z1 z2 z3 z4 z5
  obtain ⟨Ab, cb, rfl, hb1, hb2, x1⟩ := h1.open_
  obtain ⟨An, cn, rfl, hn1, hn2, x2⟩ := h2.one
  obtain ⟨At, ct, rfl, ht1, ht2, x3⟩ := h3.one
  obtain ⟨Ak, ck, rfl, hk1, hk2, x4⟩ := h4.one
  unfold rmV at hPL ⊢
  simp only at hPL hNM HP ⊢
  have HPL := Lib.hid hPL
  have HNM := Lib.hid hNM
  clear hPL hNM hr hk h1 h2 h3 h4 x1 x3 x4
  unfold maxLen at hn2
  have b0 : Below w.heap.size w (w.alloc (.cells #[.string name, .int .i64 kind, .int .i64 size, .bool little, .slice Ab bytes.length cb, .slice An names.length cn, .slice At tags.length ct, .slice Ak kids.length ck] 58)) := (Below.refl _ _).alloc (Nat.le_refl _) _
  have c0 : (w.alloc (.cells #[.string name, .int .i64 kind, .int .i64 size, .bool little, .slice Ab bytes.length cb, .slice An names.length cn, .slice At tags.length ct, .slice Ak kids.length ck] 58)).cell? ⟨w.heap.size, 0, none⟩ = some (.string name) := by simp [go_sem]
  have c1 : (w.alloc (.cells #[.string name, .int .i64 kind, .int .i64 size, .bool little, .slice Ab bytes.length cb, .slice An names.length cn, .slice At tags.length ct, .slice Ak kids.length ck] 58)).cell? ⟨w.heap.size, 1, none⟩ = some (.int .i64 kind) := by simp [go_sem]
  have c2 : (w.alloc (.cells #[.string name, .int .i64 kind, .int .i64 size, .bool little, .slice Ab bytes.length cb, .slice An names.length cn, .slice At tags.length ct, .slice Ak kids.length ck] 58)).cell? ⟨w.heap.size, 2, none⟩ = some (.int .i64 size) := by simp [go_sem]
  have c3 : (w.alloc (.cells #[.string name, .int .i64 kind, .int .i64 size, .bool little, .slice Ab bytes.length cb, .slice An names.length cn, .slice At tags.length ct, .slice Ak kids.length ck] 58)).cell? ⟨w.heap.size, 3, none⟩ = some (.bool little) := by simp [go_sem]
  have c4 : (w.alloc (.cells #[.string name, .int .i64 kind, .int .i64 size, .bool little, .slice Ab bytes.length cb, .slice An names.length cn, .slice At tags.length ct, .slice Ak kids.length ck] 58)).cell? ⟨w.heap.size, 4, none⟩ = some (.slice Ab bytes.length cb) := by simp [go_sem]
  have c5 : (w.alloc (.cells #[.string name, .int .i64 kind, .int .i64 size, .bool little, .slice Ab bytes.length cb, .slice An names.length cn, .slice At tags.length ct, .slice Ak kids.length ck] 58)).cell? ⟨w.heap.size, 5, none⟩ = some (.slice An names.length cn) := by simp [go_sem]
  have c6 : (w.alloc (.cells #[.string name, .int .i64 kind, .int .i64 size, .bool little, .slice Ab bytes.length cb, .slice An names.length cn, .slice At tags.length ct, .slice Ak kids.length ck] 58)).cell? ⟨w.heap.size, 6, none⟩ = some (.slice At tags.length ct) := by simp [go_sem]
  have c7 : (w.alloc (.cells #[.string name, .int .i64 kind, .int .i64 size, .bool little, .slice Ab bytes.length cb, .slice An names.length cn, .slice At tags.length ct, .slice Ak kids.length ck] 58)).cell? ⟨w.heap.size, 7, none⟩ = some (.slice Ak kids.length ck) := by simp [go_sem]
  have hz : (w.alloc (.cells #[.string name, .int .i64 kind, .int .i64 size, .bool little, .slice Ab bytes.length cb, .slice An names.length cn, .slice At tags.length ct, .slice Ak kids.length ck] 58)).heap.size = w.heap.size + 1 := by simp
  generalize hW0 : (w.alloc (.cells #[.string name, .int .i64 kind, .int .i64 size, .bool little, .slice Ab bytes.length cb, .slice An names.length cn, .slice At tags.length ct, .slice Ak kids.length ck] 58)) = W0 at *
  have HW0 := Lib.hid hW0
  cases hpl : pl
  · have HX := Lib.hid (show (plainR ⟨name, kind, size, little, bytes, names, tags, kids⟩ false false true false names.length && okNames names) = false by rw [HP.out, hpl]; rfl)
    rw [hpl] at HPL
    clear hpl hW0
    go_enter Tryd.func70, Tryd.ntmps70
    go_wp2_with fail
    rw [HW0.out]
    refine (HPL.out _ b0).mono ?_
    rintro e w1 ⟨rfl, bel⟩
    have b1 := below_step bel b0
    have c5 := cell_later bel c5
    have c7 := cell_later bel c7
    go_wp2
    go_ret
    exact ⟨ret_bool HX.out.symm, b1⟩
  · rw [hpl] at HPL HP
    clear hpl hW0
    by_cases hkn2 : (kids.length : Int) = names.length
    · have ne := neq_false hkn2
      have HP2 := Lib.hid (HP.out.trans (show _ = true by rw [hkn2]; simp))
      have hkn3 : kids.length ≤ names.length := by omega
      have hkn4 : names.length ≤ kids.length := by omega
      cases hin : inB kids.length 1 8
      · have HX := Lib.hid (show (plainR ⟨name, kind, size, little, bytes, names, tags, kids⟩ false false true false names.length && okNames names) = false by
          rw [HP2.out, okNames, ← hkn2, hin]; simp)
        have HI := Lib.hid hin
        clear hin hkn2
        go_enter Tryd.func70, Tryd.ntmps70
        go_wp2_with fail
        rw [HW0.out]
        refine (HPL.out _ b0).mono ?_
        rintro e w1 ⟨rfl, bel⟩
        have b1 := below_step bel b0
        have c5 := cell_later bel c5
        have c7 := cell_later bel c7
        go_wp2_with (go_at_call 53; refine (InRange_any _ _ _ _).mono ?_; rintro e w1 ⟨rfl, rfl⟩; rw [HI.out])
        go_ret
        exact ⟨ret_bool HX.out.symm, b1⟩
      · have HO := Lib.hid (show (plainR ⟨name, kind, size, little, bytes, names, tags, kids⟩ false false true false names.length && okNames names) = allTo (nmAt names) names.length by
          rw [HP2.out, okNames, ← hkn2, hin]; simp)
        have HI := Lib.hid hin
        clear hin hkn2
        go_enter Tryd.func70, Tryd.ntmps70
        go_wp2_with fail
        rw [HW0.out]
        refine (HPL.out _ b0).mono ?_
        rintro e w1 ⟨rfl, bel⟩
        have b1 := below_step bel b0
        have hz1 := bel.size
        have c0 := cell_later bel c0
        have c1 := cell_later bel c1
        have c2 := cell_later bel c2
        have c3 := cell_later bel c3
        have c4 := cell_later bel c4
        have c5 := cell_later bel c5
        have c6 := cell_later bel c6
        have c7 := cell_later bel c7
        go_wp2_with (go_at_call 53; refine (InRange_any _ _ _ _).mono ?_; rintro e w1 ⟨rfl, rfl⟩; rw [HI.out])
        have c5' := c5
        clear c0 c1 c2 c3 c4 c6 c7 c5 bel
        go_loopw [27] (fun i wr => ∃ k : Nat, k ≤ names.length ∧ i = .int .i64 k ∧ Below w1.heap.size w1 wr ∧ allTo (nmAt names) k = true) (fun i _ => names.length - (intOf i).toNat)
        case atStart => exact ⟨0, Nat.zero_le _, rfl, Below.refl _ _, rfl⟩
        case round =>
          obtain ⟨k, hk, rfl, hb, hall⟩ := hrel
          have c5 := cell_at hb (show w.heap.size < w1.heap.size by omega) c5'
          have hbw := b1.trans (hb.mono (by omega))
          have HBW := Lib.hid hbw
          have hbs := hb.size
          have hbz := hbw.size
          have HB := Lib.hid hb
          by_cases hlt : k < names.length
          · obtain ⟨b, off, rfl, hbB, hc0⟩ := x2 k hlt
            have hcr : wr.cell? ⟨b, off + k, none⟩ = some (.string names[k]) := cell_at hbw (show b < w.heap.size by omega) hc0
            have hsl : ∀ W, Below wr.heap.size wr W → SlS W w.heap.size (.slice (cutA (some ⟨b, off, none⟩) cn 0 1) (k - 0) (cn - 0)) (names.take k) := fun W hw => (HNM.out W (HBW.out.trans (hw.mono (by omega)))).take k hk hn1 (by unfold maxLen; omega)
            have hn := nmAt_eq names k hlt
            have hno := allTo_no (nmAt names) k names.length hlt
            have hst := allTo_step (nmAt names) k hall
            have QS : ∀ W, Calls Tryd.prog 61 #[.string names[k]] W fun e w' => e = .returned (.bool (isName names[k])) ∧ Below W.heap.size W w' := fun W => implIsName_any names[k] W (hkn _ (List.getElem_mem hlt))
            have QC : ∀ W, Below wr.heap.size wr W → Calls Tryd.prog 78 #[.slice (cutA (some ⟨b, off, none⟩) cn 0 1) (k - 0) (cn - 0), .string names[k]] W fun e w' => e = .returned (.bool (hasT (names.take k) names[k])) ∧ W = w' := fun W hw => implContains_any _ (names.take k) names[k] _ W (hsl W hw)
            have hcut := run_cutH (P := Tryd.prog) Tryd.underlying55 Tryd.sizeOf9 (some ⟨b, off, none⟩) names.length cn k k rfl (by omega)
            generalize names[k] = y at *
            generalize hasT (names.take k) y = t at *
            cases hi : isName y
            · have HX := Lib.hid (HO.out.trans (hno (by rw [hn, hi]; rfl)))
              rw [hi] at QS
              have QS := Lib.hid QS
              clear hn hno hst hall QC hi x2 hsl hb hbw hc0 hkn
              go_wp2_with fail
              refine (QS.out _).mono ?_
              rintro e w2 ⟨rfl, bel⟩
              have b2 := below_step bel HBW.out
              have c5 := cell_later bel c5
              clear bel
              go_wp2
              go_ret
              exact ⟨ret_bool HX.out.symm, b2⟩
            · rw [hi] at QS
              have QS := Lib.hid QS
              have QC := Lib.hid QC
              cases t
              · have HX := Lib.hid (hst (by rw [hn, hi]; rfl))
                clear hn hno hst hall hi x2 hsl hb hbw hc0 hkn
                go_wp2_with fail
                refine (QS.out _).mono ?_
                rintro e w2 ⟨rfl, bel⟩
                have BL := Lib.hid bel
                have c5 := cell_later bel c5
                clear bel
                go_wp2_with (go_at_call 78; refine (QC.out _ BL.out).mono ?_; rintro e w3 ⟨rfl, rfl⟩)
                go_roundw
                case rel => exact ⟨k + 1, by omega, by go_num, HB.out.trans (BL.out.mono (HB.out.size)), HX.out⟩
                case measure => simp [intOf]; omega
              · have HX := Lib.hid (HO.out.trans (hno (by rw [hn, hi]; rfl)))
                clear hn hno hst hall hi x2 hsl hb hbw hc0 hkn
                go_wp2_with fail
                refine (QS.out _).mono ?_
                rintro e w2 ⟨rfl, bel⟩
                have BL := Lib.hid bel
                have c5 := cell_later bel c5
                clear bel
                go_wp2_with (go_at_call 78; refine (QC.out _ BL.out).mono ?_; rintro e w3 ⟨rfl, rfl⟩)
                go_ret
                exact ⟨ret_bool HX.out.symm, below_step BL.out HBW.out⟩
          · have hkl : k = names.length := by omega
            have HX := Lib.hid (HO.out.trans (by rw [← hkl, hall]))
            clear hall hkl x2 hb
            go_wp2
            go_ret
            exact ⟨ret_bool HX.out.symm, HBW.out⟩
    · have ne := neq_true hkn2
      have HX := Lib.hid (show (plainR ⟨name, kind, size, little, bytes, names, tags, kids⟩ false false true false names.length && okNames names) = false by
        rw [HP.out]
        have : ((kids.length : Int) == names.length) = false := beq_eq_false_iff_ne.2 hkn2
        rw [this]; rfl)
      clear hkn2
      go_enter Tryd.func70, Tryd.ntmps70
      go_wp2_with fail
      rw [HW0.out]
      refine (HPL.out _ b0).mono ?_
      rintro e w1 ⟨rfl, bel⟩
      have b1 := below_step bel b0
      have c5 := cell_later bel c5
      have c7 := cell_later bel c7
      go_wp2
      go_ret
      exact ⟨ret_bool HX.out.symm, b1⟩
end Go.Proofs.YtkfmdkogifmfmaaDoor
