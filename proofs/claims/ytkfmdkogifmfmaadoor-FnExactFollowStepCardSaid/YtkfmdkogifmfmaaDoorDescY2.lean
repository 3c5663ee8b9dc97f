/- The walk of validChoice. Conditions: the description and the rule read as their data. -/
import Derived.Test.YtkfmdkogifmfmaaDoorDescY
import Derived.WalkSpells
import Derived.WalkLawsBesides
import Derived.Deep.RegionHeld3
namespace Go.Proofs.YtkfmdkogifmfmaaDoor
set_option linter.unusedSimpArgs false
set_option linter.unusedVariables false
open Go.RowKit
theorem limitOf_two (D : List RuleD) (i : Int) : limitOf D i = -1 ∨ 255 ≤ limitOf D i := by
  unfold limitOf
  split
  · exact .inl rfl
  · unfold limitR pow8
    split
    · right
      split
      · omega
      · split
        · omega
        · split <;> omega
    · exact .inl rfl
set_option maxHeartbeats 4000000 in
set_option maxRecDepth 100000 in
theorem validChoice_any (v : Value) (l : List RM) (r : RM) (B : Nat) (w : World) (h : SlD w B v l) (hB : B ≤ w.heap.size) (ok : ∀ r ∈ l, r.d.ok) (hr : r.rd w B) (hk : r.d.ok) (hsm : r.d.small 1048576) :
    Calls Tryd.prog 71 #[.agg #[v], rmV r] w fun e w' => e = .returned (.bool (plainR r.d false false false true (-1) && okTags (l.map RM.d) r.d)) ∧ Below w.heap.size w w' := by
  have hLIM : ∀ W i, Below w.heap.size w W → InI64 i → Calls Tryd.prog 69 #[.agg #[v], .int .i64 i] W fun e w' => e = .returned (.int .i64 (limitOf (l.map RM.d) i)) ∧ Below W.heap.size W w' := fun W i hb hi =>
    implLimit_any v l i B W (h.below (hb.mono hB)) (by have := hb.size; omega) hi ok
  have hlb := fun i => limitOf_bd (l.map RM.d) i
  have hl2 := fun i => limitOf_two (l.map RM.d) i
  have hPL : ∀ W (K : Int), Below w.heap.size w W → Calls Tryd.prog 68 #[rmV r, .bool false, .bool false, .bool false, .bool true, .int .i64 K] W fun e w' => e = .returned (.bool (plainR r.d false false false true K)) ∧ Below W.heap.size W w' := fun W K hb => implPlain_t r B _ W (hr.below (hb.mono hB))
  have hPL := fun W => hPL W ((r.d.tags.length : Int) + 1)
  have hpl : (plainR r.d false false false true (-1) && okTags (l.map RM.d) r.d) = (plainR r.d false false false true ((r.d.tags.length : Int) + 1) && (inB r.d.tags.length 1 8 && allTo (tgAt (limitOf (l.map RM.d) (kid r.d 0)) r.d.tags) r.d.tags.length)) := by
    unfold okTags plainR
    have e1 : decide (((r.d.tags.length : Nat) : Int) + 1 < 0) = false := decide_eq_false (by omega)
    rw [e1]
    simp [Bool.and_assoc]
  have hkids : plainR r.d false false false true ((r.d.tags.length : Int) + 1) = true → (r.d.kids.length : Int) = r.d.tags.length + 1 := by
    unfold plainR
    have e1 : decide (((r.d.tags.length : Nat) : Int) + 1 < 0) = false := decide_eq_false (by omega)
    rw [e1]
    intro h
    simp only [Bool.and_eq_true, Bool.or_eq_true, beq_iff_eq] at h
    have := h.2.2.2.2
    simpa using this
  have HP := Lib.hid hpl
  clear hpl
  generalize hD : l.map RM.d = D at *
  clear hD
  generalize plainR r.d false false false true ((r.d.tags.length : Int) + 1) = pl at *
  obtain ⟨⟨name, kind, size, little, bytes, names, tags, kids⟩, vb, vn, vt, vk⟩ := r
  have h1 : SlB w B vb bytes := hr.b
  have h2 : SlS w B vn names := hr.n
  have h3 : SlI w B vt tags := hr.t
  have h4 : SlI w B vk kids := hr.k
  have hkn : ∀ s ∈ names, s.size ≤ maxLen := hk.names
  have hkt : ∀ a ∈ tags, InI64 a := hk.tags
  have hkk : ∀ a ∈ kids, InI64 a := hk.kids
  obtain ⟨z0, z1, z2, z3, z4, z5⟩ := hsm
  simp only at z0 z1 z2 z3 z4 z5
  obtain ⟨Ad, cd, rfl, -⟩ := h.open_
  obtain ⟨Ab, cb, rfl, hb1, hb2, x1⟩ := h1.open_
  obtain ⟨An, cn, rfl, hn1, hn2, x2⟩ := h2.one
  obtain ⟨At, ct, rfl, ht1, ht2, x3⟩ := h3.one
  obtain ⟨Ak, ck, rfl, hk1, hk2, x4⟩ := h4.one
  unfold rmV at hPL ⊢
  simp only at hPL HP hkids ⊢
  have HPL := Lib.hid hPL
  have HLIM := Lib.hid hLIM
  clear hPL hLIM hr hk h1 h2 h3 h4 x1 x2 h
  unfold maxLen at ht2 hk2
  have b0 : Below w.heap.size w ((w.alloc (.cells #[.slice Ad l.length cd] 32)).alloc (.cells #[.string name, .int .i64 kind, .int .i64 size, .bool little, .slice Ab bytes.length cb, .slice An names.length cn, .slice At tags.length ct, .slice Ak kids.length ck] 58)) := (((Below.refl _ _).alloc (Nat.le_refl _) _).alloc (by simp) _)
  have cD : ((w.alloc (.cells #[.slice Ad l.length cd] 32)).alloc (.cells #[.string name, .int .i64 kind, .int .i64 size, .bool little, .slice Ab bytes.length cb, .slice An names.length cn, .slice At tags.length ct, .slice Ak kids.length ck] 58)).cell? ⟨w.heap.size, 0, none⟩ = some (.slice Ad l.length cd) := by simp [go_sem]
  have c0 : ((w.alloc (.cells #[.slice Ad l.length cd] 32)).alloc (.cells #[.string name, .int .i64 kind, .int .i64 size, .bool little, .slice Ab bytes.length cb, .slice An names.length cn, .slice At tags.length ct, .slice Ak kids.length ck] 58)).cell? ⟨w.heap.size + 1, 0, none⟩ = some (.string name) := by simp [go_sem]
  have c1 : ((w.alloc (.cells #[.slice Ad l.length cd] 32)).alloc (.cells #[.string name, .int .i64 kind, .int .i64 size, .bool little, .slice Ab bytes.length cb, .slice An names.length cn, .slice At tags.length ct, .slice Ak kids.length ck] 58)).cell? ⟨w.heap.size + 1, 1, none⟩ = some (.int .i64 kind) := by simp [go_sem]
  have c2 : ((w.alloc (.cells #[.slice Ad l.length cd] 32)).alloc (.cells #[.string name, .int .i64 kind, .int .i64 size, .bool little, .slice Ab bytes.length cb, .slice An names.length cn, .slice At tags.length ct, .slice Ak kids.length ck] 58)).cell? ⟨w.heap.size + 1, 2, none⟩ = some (.int .i64 size) := by simp [go_sem]
  have c3 : ((w.alloc (.cells #[.slice Ad l.length cd] 32)).alloc (.cells #[.string name, .int .i64 kind, .int .i64 size, .bool little, .slice Ab bytes.length cb, .slice An names.length cn, .slice At tags.length ct, .slice Ak kids.length ck] 58)).cell? ⟨w.heap.size + 1, 3, none⟩ = some (.bool little) := by simp [go_sem]
  have c4 : ((w.alloc (.cells #[.slice Ad l.length cd] 32)).alloc (.cells #[.string name, .int .i64 kind, .int .i64 size, .bool little, .slice Ab bytes.length cb, .slice An names.length cn, .slice At tags.length ct, .slice Ak kids.length ck] 58)).cell? ⟨w.heap.size + 1, 4, none⟩ = some (.slice Ab bytes.length cb) := by simp [go_sem]
  have c5 : ((w.alloc (.cells #[.slice Ad l.length cd] 32)).alloc (.cells #[.string name, .int .i64 kind, .int .i64 size, .bool little, .slice Ab bytes.length cb, .slice An names.length cn, .slice At tags.length ct, .slice Ak kids.length ck] 58)).cell? ⟨w.heap.size + 1, 5, none⟩ = some (.slice An names.length cn) := by simp [go_sem]
  have c6 : ((w.alloc (.cells #[.slice Ad l.length cd] 32)).alloc (.cells #[.string name, .int .i64 kind, .int .i64 size, .bool little, .slice Ab bytes.length cb, .slice An names.length cn, .slice At tags.length ct, .slice Ak kids.length ck] 58)).cell? ⟨w.heap.size + 1, 6, none⟩ = some (.slice At tags.length ct) := by simp [go_sem]
  have c7 : ((w.alloc (.cells #[.slice Ad l.length cd] 32)).alloc (.cells #[.string name, .int .i64 kind, .int .i64 size, .bool little, .slice Ab bytes.length cb, .slice An names.length cn, .slice At tags.length ct, .slice Ak kids.length ck] 58)).cell? ⟨w.heap.size + 1, 7, none⟩ = some (.slice Ak kids.length ck) := by simp [go_sem]
  have hz : ((w.alloc (.cells #[.slice Ad l.length cd] 32)).alloc (.cells #[.string name, .int .i64 kind, .int .i64 size, .bool little, .slice Ab bytes.length cb, .slice An names.length cn, .slice At tags.length ct, .slice Ak kids.length ck] 58)).heap.size = w.heap.size + 2 := by simp
  generalize hW0 : ((w.alloc (.cells #[.slice Ad l.length cd] 32)).alloc (.cells #[.string name, .int .i64 kind, .int .i64 size, .bool little, .slice Ab bytes.length cb, .slice An names.length cn, .slice At tags.length ct, .slice Ak kids.length ck] 58)) = W0 at *
  have HW0 := Lib.hid hW0
  clear hW0
  cases hpl : pl
  · have HX := Lib.hid (HP.out.trans (by rw [hpl]))
    rw [hpl] at HPL
    clear hpl x3 x4 hlb hl2 hkids
    go_enter Tryd.func71, Tryd.ntmps71
    go_wp2_with fail
    rw [HW0.out]
    refine (HPL.out _ b0).mono ?_
    rintro e w1 ⟨rfl, bel⟩
    have b1 := below_step bel b0
    have c6 := cell_later bel c6
    clear bel
    go_wp2
    go_ret
    exact ⟨ret_bool HX.out.symm, b1⟩
  · rw [hpl] at HPL
    have hkl := hkids hpl
    cases e2 : inB tags.length 1 8
    · have HX := Lib.hid (HP.out.trans (by rw [hpl, e2]))
      have HE := Lib.hid e2
      clear hpl x3 x4 hlb hl2 hkids e2 hkl
      go_enter Tryd.func71, Tryd.ntmps71
      go_wp2_with fail
      rw [HW0.out]
      refine (HPL.out _ b0).mono ?_
      rintro e w1 ⟨rfl, bel⟩
      have b1 := below_step bel b0
      have c6 := cell_later bel c6
      have c7 := cell_later bel c7
      clear bel
      go_wp2_with (go_at_call 53; refine (InRange_any _ _ _ _).mono ?_; rintro e w1 ⟨rfl, rfl⟩; rw [HE.out])
      go_ret
      exact ⟨ret_bool HX.out.symm, b1⟩
    · have h8 : 1 ≤ tags.length ∧ tags.length ≤ 8 := by have := inB_iff.1 e2; omega
      have hkl1 : 0 < kids.length := by omega
      have hkl2 : (0 : Int) < kids.length := by omega
      obtain ⟨bk, ok, rfl, hbk, ck0⟩ := x4 0 hkl1
      have hi0 := hkk _ (List.getElem_mem hkl1)
      have hkid : kid ⟨name, kind, size, little, bytes, names, tags, kids⟩ 0 = kids[0] := kid_at ⟨name, kind, size, little, bytes, names, tags, kids⟩ 0 hkl1
      have HO := Lib.hid (HP.out.trans (show _ = allTo (tgAt (limitOf D (kid ⟨name, kind, size, little, bytes, names, tags, kids⟩ 0)) tags) tags.length by rw [hpl, e2]; rfl))
      rw [hkid] at HO
      generalize kids[0] = k0 at *
      have HLB := hlb k0
      have HL2 := hl2 k0
      have HE := Lib.hid e2
      have hLM : ∀ W, Below w.heap.size w W → Calls Tryd.prog 69 #[.agg #[.slice Ad l.length cd], .int .i64 k0] W fun e w' => e = .returned (.int .i64 (limitOf D k0)) ∧ Below W.heap.size W w' := fun W hb => HLIM.out W k0 hb hi0
      generalize limitOf D k0 = lim at *
      have HLM := Lib.hid hLM
      have hck := cell_at b0 (show bk < w.heap.size by omega) ck0
      clear e2 hkk hlb hl2 HLIM hkid hLM hi0 hpl hkids hkl
      go_enter Tryd.func71, Tryd.ntmps71
      go_wp2_with fail
      rw [HW0.out]
      refine (HPL.out _ b0).mono ?_
      rintro e w1 ⟨rfl, bel⟩
      have b1 := below_step bel b0
      have hz1 := bel.size
      have c0 := cell_later bel c0
      have c1 := cell_later bel c1
      have c2 := cell_later bel c2
      have c3 := cell_later bel c3
      have c4 := cell_later bel c4
      have c5 := cell_later bel c5
      have c6 := cell_later bel c6
      have c7 := cell_later bel c7
      have cD := cell_later bel cD
      have hck := cell_later bel hck
      clear bel
      go_wp2_with (go_at_call 53; refine (InRange_any _ _ _ _).mono ?_; rintro e w1 ⟨rfl, rfl⟩; rw [HE.out])
      go_region_held3 (fun w9 => w9.cell? ⟨w.heap.size, 0, none⟩ = some (.slice Ad l.length cd) ∧ w9.cell? ⟨w.heap.size + 1, 7, none⟩ = some (.slice (some ⟨bk, ok, none⟩) kids.length ck) ∧ w9.cell? ⟨bk, ok, none⟩ = some (.int .i64 k0))
        (first | exact ⟨cD, c7, hck⟩ | exact ⟨cell_later bel cD, cell_later bel c7, cell_later bel hck⟩)
        (first | (go_at_call 69; refine (HLM.out _ b1.drew).mono ?_; rintro e w2 ⟨rfl, bel⟩))
      have hb2 := below_step bel b1.drew
      have c6' := cell_later bel c6
      have hz2 := bel.size
      have hz3 : w1.heap.size ≤ w2.heap.size := hz2
      clear cD c0 c1 c2 c3 c4 c5 c6 c7 bel hck
      go_wp2
      go_loopw [31] (fun i wr => ∃ k : Nat, k ≤ tags.length ∧ i = .int .i64 k ∧ Below w2.heap.size w2 wr ∧ allTo (tgAt lim tags) k = true) (fun i _ => tags.length - (intOf i).toNat)
      case atStart => exact ⟨0, Nat.zero_le _, rfl, Below.refl _ _, rfl⟩
      case round =>
        obtain ⟨k, hkl2, rfl, hb, hall⟩ := hrel
        have c6 := cell_at hb (show w.heap.size + 1 < w2.heap.size by omega) c6'
        have hbw := hb2.trans (hb.mono (by omega))
        have HB := Lib.hid hb
        have HBW := Lib.hid hbw
        by_cases hlt : k < tags.length
        · obtain ⟨bt, ot, rfl, hbt, ct0⟩ := x3 k hlt
          have dt := cell_at hbw (show bt < w.heap.size by omega) ct0
          have hno := allTo_no (tgAt lim tags) k tags.length hlt
          have hst := allTo_step (tgAt lim tags) k hall
          cases hin : inB tags[k] 0 lim
          · have hf : tgAt lim tags k = false := by
              cases k with
              | zero => rw [tgAt_zero lim tags hlt, hin]
              | succ j => rw [tgAt_succ lim tags j hlt, hin]; rfl
            have HX := Lib.hid (HO.out.trans (hno hf))
            generalize tags[k] = t at *
            have HT := Lib.hid hin
            clear x3 ct0 hno hst hin hf hall hb hkt hbw
            go_wp2_with fail
            refine (InRange_any _ _ _ _).mono ?_
            rintro e w3 ⟨rfl, rfl⟩
            rw [HT.out]
            go_wp2
            go_ret
            exact ⟨ret_bool HX.out.symm, HBW.out⟩
          · cases k with
            | zero =>
              have HX := Lib.hid (hst (by rw [tgAt_zero lim tags hlt, hin]))
              rw [Nat.add_zero] at dt
              generalize tags[0] = t at *
              have HT := Lib.hid hin
              clear x3 ct0 hno hst hin hall hb hkt hbw
              go_wp2_with fail
              refine (InRange_any _ _ _ _).mono ?_
              rintro e w3 ⟨rfl, rfl⟩
              rw [HT.out]
              go_wp2
              go_roundw
              case rel => exact ⟨1, by omega, by go_num, HB.out, HX.out⟩
              case measure => simp [intOf]; omega
            | succ j =>
              have hjl : j < tags.length := by omega
              obtain ⟨bt', ot', ebt, hbt', cp0⟩ := x3 j hjl
              simp only [Option.some.injEq, Addr.mk.injEq] at ebt
              obtain ⟨rfl, rfl, -⟩ := ebt
              have dp := cell_at hbw (show bt < w.heap.size by omega) cp0
              have hsx := tgAt_succ lim tags j hlt
              have hj0 : (0 : Int) ≤ j := by omega
              have hj4 : (0 : Int) ≤ (j : Int) + 1 := by omega
              have hj2 : (j : Int) < tags.length := by omega
              have hj3 : (j : Int) + 1 < tags.length := by omega
              have hjp : (0 : Int) < (j : Int) + 1 := by omega
              cases hlt' : decide (tags[j] < tags[j + 1])
              · have hge : decide (tags[j + 1] ≤ tags[j]) = true := decide_eq_true (by have := of_decide_eq_false hlt'; omega)
                have HX := Lib.hid (HO.out.trans (hno (by rw [hsx, hin, hlt']; rfl)))
                generalize tags[j + 1] = t at *
                generalize tags[j] = t' at *
                have HT := Lib.hid hin
                clear x3 ct0 hno hst hin hall hb hkt cp0 hsx hlt' hbw
                go_wp2_with fail
                refine (InRange_any _ _ _ _).mono ?_
                rintro e w3 ⟨rfl, rfl⟩
                rw [HT.out]
                go_wp2
                go_ret
                exact ⟨ret_bool HX.out.symm, HBW.out⟩
              · have hge : decide (tags[j + 1] ≤ tags[j]) = false := decide_eq_false (by have := of_decide_eq_true hlt'; omega)
                have HX := Lib.hid (hst (by rw [hsx, hin, hlt']; rfl))
                generalize tags[j + 1] = t at *
                generalize tags[j] = t' at *
                have HT := Lib.hid hin
                clear x3 ct0 hno hst hin hall hb hkt cp0 hsx hlt' hbw
                go_wp2_with fail
                refine (InRange_any _ _ _ _).mono ?_
                rintro e w3 ⟨rfl, rfl⟩
                rw [HT.out]
                go_wp2
                go_roundw
                case rel => exact ⟨j + 2, by omega, by go_num, HB.out, HX.out⟩
                case measure => simp [intOf]; omega
        · have hkl3 : k = tags.length := by omega
          have hpos : 0 < lim := by
            have h0 := (allTo_iff (tgAt lim tags) k).1 hall 0 (by omega)
            rw [tgAt_zero lim tags (by omega)] at h0
            have := inB_iff.1 h0
            omega
          have hdp : decide (0 < lim) = true := decide_eq_true hpos
          have HX := Lib.hid (HO.out.trans (by rw [← hkl3, hall]))
          clear hall hb hkl3 x3 hb2 hbw hpos
          go_wp2
          go_ret
          exact ⟨ret_bool HX.out.symm, HBW.out⟩
end Go.Proofs.YtkfmdkogifmfmaaDoor
