/- The walks of StepOf, spec and impl. Conditions: the description reads as its rules, which are small; for impl: the table of powers of ten reads as laid. -/
import Derived.Test.YtkfmdkogifmfmaaDoorFmtD
import Derived.Test.YtkfmdkogifmfmaaDoorDescAlt
import Derived.WalkSpells
import Derived.WalkLawsBesides
namespace Go.Proofs.YtkfmdkogifmfmaaDoor
set_option linter.unusedSimpArgs false
set_option linter.unusedVariables false
open Go.RowKit
/-- The step to item i of a value of rule r. -/
def stepR (r : RuleD) (i : Int) : ByteArray :=
  if r.kind = 5 then str (fmtI i)
  else if r.kind = 6 ∧ i < r.names.length then r.names.getD i.toNat ⟨#[]⟩
  else if 0 < i then ⟨#[]⟩
  else if r.kind = 7 then ⟨#[42]⟩ else if r.kind = 8 then ⟨#[63]⟩ else if r.kind = 9 then ⟨#[43]⟩ else ⟨#[]⟩
def stepOf (D : List RuleD) (rule i : Int) : ByteArray :=
  if knownD D rule ∧ 0 ≤ i then (match ruleAt D rule with | none => ⟨#[]⟩ | some r => stepR r i) else ⟨#[]⟩
theorem stepOf_no {D : List RuleD} {rule i : Int} (h : knownD D rule = false ∨ i < 0) : stepOf D rule i = ⟨#[]⟩ := by
  unfold stepOf
  rw [if_neg]
  rintro ⟨a, b⟩
  rcases h with h | h
  · rw [h] at a; exact Bool.false_ne_true a
  · omega
theorem stepOf_at {D : List RuleD} {rule i : Int} (h : knownD D rule = true) (hi : 0 ≤ i) : ∃ (k : Nat) (hk : k < D.length), rule = k ∧ stepOf D rule i = stepR D[k] i := by
  obtain ⟨h0, h1⟩ := knownD_at h
  obtain ⟨k, hk, e, hat⟩ := ruleAt_some h0 h1
  refine ⟨k, hk, e, ?_⟩
  unfold stepOf
  rw [if_pos ⟨h, hi⟩, hat]
theorem stepR_5 {r : RuleD} {i : Int} (h : r.kind = 5) : stepR r i = str (fmtI i) := by unfold stepR; rw [if_pos h]
theorem stepR_6 {r : RuleD} {k : Nat} (h : r.kind = 6) (hk : k < r.names.length) : stepR r k = r.names[k] := by
  unfold stepR
  rw [if_neg (by omega), if_pos ⟨h, by omega⟩, Int.toNat_natCast, List.getD_eq_getElem?_getD, List.getElem?_eq_getElem hk]
  rfl
theorem stepR_pos {r : RuleD} {i : Int} (h5 : r.kind ≠ 5) (h6 : ¬ (r.kind = 6 ∧ i < r.names.length)) (hi : 0 < i) : stepR r i = ⟨#[]⟩ := by unfold stepR; rw [if_neg h5, if_neg h6, if_pos hi]
theorem stepR_zero {r : RuleD} (h5 : r.kind ≠ 5) (h6 : ¬ (r.kind = 6 ∧ (0 : Int) < r.names.length)) : stepR r 0 = if r.kind = 7 then ⟨#[42]⟩ else if r.kind = 8 then ⟨#[63]⟩ else if r.kind = 9 then ⟨#[43]⟩ else ⟨#[]⟩ := by
  unfold stepR; rw [if_neg h5, if_neg h6, if_neg (by omega)]
theorem str_nil : str [] = ⟨#[]⟩ := rfl
set_option maxHeartbeats 2000000 in
theorem l18Step_any (r : RM) (i : Int) (B : Nat) (w : World) (h : r.rd w B) (hB : B ≤ w.heap.size) (hi0 : 0 ≤ i) (hi1 : i ≤ 9223372036854775807) (sm : r.d.small 1048576) :
    Calls Tryd.prog 28 #[rmV r, .int .i64 i] w fun e w' => e = .returned (.string (stepR r.d i)) ∧ Below w.heap.size w w' := by
  have hF : ∀ W, Below w.heap.size w W → Calls Tryd.prog 42 #[.int .i64 i] W fun e w' => e = .returned (.string (str (fmtI i))) ∧ Below W.heap.size W w' := fun W h => specFormatInt_any i W ⟨by omega, hi1⟩
  have HF := Lib.hid hF
  clear hF
  obtain ⟨Ab, cb, eb, -⟩ := h.b.open_
  obtain ⟨An, cn, en, hcn, hmn, hcell⟩ := h.n.one
  obtain ⟨At, ct, et, -⟩ := h.t.one
  obtain ⟨Ak, ck, ek, -⟩ := h.k.one
  have hnm := sm.names
  clear h
  unfold rmV
  rw [eb, en, et, ek]
  clear eb en et ek sm
  generalize r.d = d at *
  obtain ⟨cs, hcs⟩ : ∃ cs : Array Value, cs = #[.string d.name, .int .i64 d.kind, .int .i64 d.size, .bool d.little, .slice Ab d.bytes.length cb, .slice An d.names.length cn, .slice At d.tags.length ct, .slice Ak d.kids.length ck] := ⟨_, rfl⟩
  have hbD := Below.allocW w (.cells cs 58) (Nat.le_refl _)
  subst hcs
  by_cases q5 : d.kind = 5
  · have HX := Lib.hid (stepR_5 (i := i) q5)
    rw [q5] at hbD ⊢
    clear hcell q5
    go_enter Tryd.func28, Tryd.ntmps28
    go_wp2_with fail
    refine (HF.out _ hbD).mono ?_
    rintro e w1 ⟨rfl, bel⟩
    have HB := Lib.hid (below_step bel hbD)
    clear bel hbD
    go_wp2
    go_ret
    exact ⟨ret_str HX.out.symm, HB.out⟩
  have f5 : (d.kind == 5) = false := beq_eq_false_iff_ne.2 q5
  by_cases q6 : d.kind = 6 ∧ i < d.names.length
  · obtain ⟨q6, q6'⟩ := q6
    obtain ⟨k, rfl⟩ := Int.eq_ofNat_of_zero_le hi0
    have hk : k < d.names.length := by omega
    have HX := Lib.hid (stepR_6 q6 hk)
    obtain ⟨b, off, rfl, hbB, hc0⟩ := hcell k hk
    have hd0 := (hbD.mono hB).cell (p := ⟨b, off + k, none⟩) hbB |>.trans hc0
    rw [q6] at hbD hd0 ⊢
    clear hcell q5 f5 q6 hc0 HF
    go_enter Tryd.func28, Tryd.ntmps28
    go_wp2
    go_ret
    exact ⟨ret_str HX.out.symm, hbD⟩
  have HD := Lib.hid hcell
  clear hcell HF HD
  by_cases hz : 0 < i
  · have HX := Lib.hid (stepR_pos q5 q6 hz)
    have z1 : (i == 0) = false := beq_eq_false_iff_ne.2 (by omega)
    by_cases r6 : d.kind = 6
    · have hge : (d.names.length : Int) ≤ i := by omega
      rw [r6] at hbD ⊢
      clear q5 f5 q6 r6
      go_enter Tryd.func28, Tryd.ntmps28
      go_wp2
      go_ret
      exact ⟨ret_str HX.out.symm, hbD⟩
    · have f6 : (d.kind == 6) = false := beq_eq_false_iff_ne.2 r6
      have HQ := Lib.hid q6
      clear q5 q6 r6
      by_cases r7 : d.kind = 7
      · rw [r7] at hbD ⊢; clear r7 f5 f6; go_enter Tryd.func28, Tryd.ntmps28; go_wp2; go_ret; exact ⟨ret_str HX.out.symm, hbD⟩
      by_cases r8 : d.kind = 8
      · rw [r8] at hbD ⊢; clear r7 r8 f5 f6; go_enter Tryd.func28, Tryd.ntmps28; go_wp2; go_ret; exact ⟨ret_str HX.out.symm, hbD⟩
      by_cases r9 : d.kind = 9
      · rw [r9] at hbD ⊢; clear r7 r8 r9 f5 f6; go_enter Tryd.func28, Tryd.ntmps28; go_wp2; go_ret; exact ⟨ret_str HX.out.symm, hbD⟩
      have f7 : (d.kind == 7) = false := beq_eq_false_iff_ne.2 r7
      have f8 : (d.kind == 8) = false := beq_eq_false_iff_ne.2 r8
      have f9 : (d.kind == 9) = false := beq_eq_false_iff_ne.2 r9
      clear r7 r8 r9
      go_enter Tryd.func28, Tryd.ntmps28
      go_wp2
      go_ret
      exact ⟨ret_str HX.out.symm, hbD⟩
  · obtain rfl : i = 0 := by omega
    have HX := Lib.hid (stepR_zero q5 q6)
    by_cases r6 : d.kind = 6
    · have hge : (d.names.length : Int) = 0 := by omega
      have hX2 := HX.out.trans (by rw [if_neg (by omega), if_neg (by omega), if_neg (by omega)])
      have HX2 := Lib.hid hX2
      have hge' : d.names.length = 0 := by omega
      clear hX2 HX
      rw [r6, hge'] at hbD
      rw [r6, hge']
      clear q5 f5 q6 r6 hge hnm
      go_enter Tryd.func28, Tryd.ntmps28
      go_wp2
      go_ret
      exact ⟨ret_str HX2.out.symm, hbD⟩
    · have f6 : (d.kind == 6) = false := beq_eq_false_iff_ne.2 r6
      clear q5 q6 r6
      by_cases r7 : d.kind = 7
      · have HY := Lib.hid (HX.out.trans (if_pos r7))
        rw [r7] at hbD ⊢; clear r7 f5 f6; go_enter Tryd.func28, Tryd.ntmps28; go_wp2; go_ret; exact ⟨ret_str HY.out.symm, hbD⟩
      by_cases r8 : d.kind = 8
      · have HY := Lib.hid (HX.out.trans ((if_neg r7).trans (if_pos r8)))
        rw [r8] at hbD ⊢; clear r7 r8 f5 f6; go_enter Tryd.func28, Tryd.ntmps28; go_wp2; go_ret; exact ⟨ret_str HY.out.symm, hbD⟩
      by_cases r9 : d.kind = 9
      · have HY := Lib.hid (HX.out.trans ((if_neg r7).trans ((if_neg r8).trans (if_pos r9))))
        rw [r9] at hbD ⊢; clear r7 r8 r9 f5 f6; go_enter Tryd.func28, Tryd.ntmps28; go_wp2; go_ret; exact ⟨ret_str HY.out.symm, hbD⟩
      have HY := Lib.hid (HX.out.trans ((if_neg r7).trans ((if_neg r8).trans (if_neg r9))))
      have f7 : (d.kind == 7) = false := beq_eq_false_iff_ne.2 r7
      have f8 : (d.kind == 8) = false := beq_eq_false_iff_ne.2 r8
      have f9 : (d.kind == 9) = false := beq_eq_false_iff_ne.2 r9
      clear r7 r8 r9
      go_enter Tryd.func28, Tryd.ntmps28
      go_wp2
      go_ret
      exact ⟨ret_str HY.out.symm, hbD⟩
set_option maxHeartbeats 2000000 in
theorem specStepOf_any (v : Value) (l : List RM) (i j : Int) (B : Nat) (w : World) (h : SlD w B v l) (hB : B ≤ w.heap.size) (ok : ∀ r ∈ l, r.d.ok) (sm : ∀ r ∈ l, r.d.small 1048576) (hj : InI64 j) :
    Calls Tryd.prog 13 #[.agg #[v], .int .i64 i, .int .i64 j] w fun e w' => e = .returned (.string (stepOf (l.map RM.d) i j)) ∧ Below w.heap.size w w' := by
  have hK : ∀ W, Below w.heap.size w W → Calls Tryd.prog 27 #[.agg #[v], .int .i64 i] W fun e w' => e = .returned (.bool (knownD (l.map RM.d) i)) ∧ Below W.heap.size W w' := fun W hb =>
    specKnown_any v l i B W (h.below (hb.mono hB)) (by have := hb.size; omega) ok sm
  obtain ⟨A, c, rfl, hc, hm, -⟩ := h.open_
  unfold maxLen at hm
  have hbD := Below.allocW w (.cells #[.slice A l.length c] 32) (Nat.le_refl _)
  have cD : (w.alloc (.cells #[.slice A l.length c] 32)).cell? ⟨w.heap.size, 0, none⟩ = some (.slice A l.length c) := by simp [go_sem]
  cases hk : knownD (l.map RM.d) i
  · have HX := Lib.hid (stepOf_no (i := j) (.inl hk))
    rw [hk] at hK
    have HK := Lib.hid hK
    clear hK hk h
    go_enter Tryd.func13, Tryd.ntmps13
    go_wp2_with fail
    refine (HK.out _ hbD).mono ?_
    rintro e w1 ⟨rfl, bel⟩
    have b1 := below_step bel hbD
    clear bel
    go_wp2
    go_ret
    exact ⟨ret_str HX.out.symm, b1⟩
  by_cases hj0 : j < 0
  · have HX := Lib.hid (stepOf_no (D := l.map RM.d) (rule := i) (.inr hj0))
    rw [hk] at hK
    have HK := Lib.hid hK
    clear hK hk h
    go_enter Tryd.func13, Tryd.ntmps13
    go_wp2_with fail
    refine (HK.out _ hbD).mono ?_
    rintro e w1 ⟨rfl, bel⟩
    have b1 := below_step bel hbD
    clear bel
    go_wp2
    go_ret
    exact ⟨ret_str HX.out.symm, b1⟩
  · obtain ⟨k, hkl, rfl, hat⟩ := stepOf_at hk (by omega : 0 ≤ j)
    have hkl : k < l.length := by simpa using hkl
    rw [List.getElem_map] at hat
    have HX := Lib.hid hat
    rw [hk] at hK
    have HK := Lib.hid hK
    obtain ⟨b, off, A1, c1, A2, c2, A3, c3, A4, c4, rfl, hbB, e1, e2, e3, e4, m1, m2, m3, m4, hcell⟩ := rule_cells h k hkl
    have HC := Lib.hid hcell
    have HR := Lib.hid (And.intro (h.2 l[k] (List.getElem_mem hkl)) (And.intro (sm l[k] (List.getElem_mem hkl)) (And.intro e1 (And.intro e2 (And.intro e3 e4)))))
    clear hK hk h hat hcell m1 m2 m3 m4 e1 e2 e3 e4
    generalize l[k] = r at *
    go_enter Tryd.func13, Tryd.ntmps13
    go_wp2_with fail
    refine (HK.out _ hbD).mono ?_
    rintro e w1 ⟨rfl, bel⟩
    have b1 := below_step bel hbD
    have cE := cell_later bel cD
    obtain ⟨x0, x1, x2, x3, x4, x5, x6, x7⟩ := HC.out w1 (below_cells b1 hB)
    have HS := Lib.hid (l18Step_any r j B w1 (HR.out.1.below (b1.mono hB)) (by have := b1.size; omega) (by omega) hj.2 HR.out.2.1)
    clear bel cD
    go_wp2_with fail
    have hs := HS.out
    unfold rmV at hs
    rw [HR.out.2.2.1, HR.out.2.2.2.1, HR.out.2.2.2.2.1, HR.out.2.2.2.2.2] at hs
    refine hs.mono ?_
    rintro e w2 ⟨rfl, bel2⟩
    have b2 := below_step bel2 b1
    clear hs x0 x1 x2 x3 x4 x5 x6 x7 bel2 b1 cE
    go_wp2
    go_ret
    exact ⟨ret_str HX.out.symm, b2⟩
set_option maxHeartbeats 2000000 in
theorem implStepOf_any (v : Value) (l : List RM) (i j : Int) (B : Nat) (w : World) (h : SlD w B v l) (hB : B ≤ w.heap.size) (ok : ∀ r ∈ l, r.d.ok) (sm : ∀ r ∈ l, r.d.small 1048576) (hj : InI64 j) (ht : Tab w) :
    Calls Tryd.prog 14 #[.agg #[v], .int .i64 i, .int .i64 j] w fun e w' => e = .returned (.string (stepOf (l.map RM.d) i j)) ∧ Below w.heap.size w w' := by
  have hK : ∀ W, Below w.heap.size w W → Calls Tryd.prog 29 #[.agg #[v], .int .i64 i] W fun e w' => e = .returned (.bool (knownD (l.map RM.d) i)) ∧ Below W.heap.size W w' := fun W hb =>
    implKnown_any v l i B W (h.below (hb.mono hB)) (by have := hb.size; omega) ok sm
  have hF : ∀ W, Below w.heap.size w W → Calls Tryd.prog 30 #[.int .i64 j] W fun e w' => e = .returned (.string (str (fmtI j))) ∧ Below W.heap.size W w' := fun W h => implFormatInt_any j W hj (tab_on ht h)
  have HF := Lib.hid hF
  clear hF ht
  obtain ⟨A, c, rfl, hc, hm, -⟩ := h.open_
  unfold maxLen at hm
  have hbD := Below.allocW w (.cells #[.slice A l.length c] 32) (Nat.le_refl _)
  have cD : (w.alloc (.cells #[.slice A l.length c] 32)).cell? ⟨w.heap.size, 0, none⟩ = some (.slice A l.length c) := by simp [go_sem]
  cases hk : knownD (l.map RM.d) i
  · have HX := Lib.hid (stepOf_no (i := j) (.inl hk))
    rw [hk] at hK
    have HK := Lib.hid hK
    clear hK hk h
    go_enter Tryd.func14, Tryd.ntmps14
    go_wp2_with fail
    refine (HK.out _ hbD).mono ?_
    rintro e w1 ⟨rfl, bel⟩
    have b1 := below_step bel hbD
    clear bel
    go_wp2
    go_ret
    exact ⟨ret_str HX.out.symm, b1⟩
  by_cases hj0 : j < 0
  · have HX := Lib.hid (stepOf_no (D := l.map RM.d) (rule := i) (.inr hj0))
    rw [hk] at hK
    have HK := Lib.hid hK
    clear hK hk h
    go_enter Tryd.func14, Tryd.ntmps14
    go_wp2_with fail
    refine (HK.out _ hbD).mono ?_
    rintro e w1 ⟨rfl, bel⟩
    have b1 := below_step bel hbD
    clear bel
    go_wp2
    go_ret
    exact ⟨ret_str HX.out.symm, b1⟩
  · obtain ⟨k, hkl, rfl, hat⟩ := stepOf_at hk (by omega : 0 ≤ j)
    have hkl : k < l.length := by simpa using hkl
    rw [List.getElem_map] at hat
    have HX := Lib.hid hat
    rw [hk] at hK
    have HK := Lib.hid hK
    have hsmk := (sm l[k] (List.getElem_mem hkl)).names
    obtain ⟨An, cn, en, hcn, hmn, hnc⟩ := (h.2 l[k] (List.getElem_mem hkl)).n.one
    obtain ⟨b, off, A1, c1, A2, c2, A3, c3, A4, c4, rfl, hbB, e1, e2, e3, e4, m1, m2, m3, m4, hcell⟩ := rule_cells h k hkl
    rw [e2] at en
    simp only [Value.slice.injEq] at en
    obtain ⟨rfl, -, rfl⟩ := en
    have HC := Lib.hid hcell
    have HN := Lib.hid hnc
    clear hK hk h hat hcell m1 m2 m3 m4 e1 e2 e3 e4 hnc ok sm
    generalize l[k] = r at *
    generalize r.d = d at *
    go_enter Tryd.func14, Tryd.ntmps14
    go_wp2_with fail
    refine (HK.out _ hbD).mono ?_
    rintro e w1 ⟨rfl, bel⟩
    have b1 := below_step bel hbD
    have b2 := b1.alloc b1.size (.cells #[.string d.name, .int .i64 d.kind, .int .i64 d.size, .bool d.little, .slice A1 d.bytes.length c1, .slice A2 d.names.length c2, .slice A3 d.tags.length c3, .slice A4 d.kids.length c4] 58)
    have cE := cell_later bel cD
    obtain ⟨x0, x1, x2, x3, x4, x5, x6, x7⟩ := HC.out w1 (below_cells b1 hB)
    clear bel cD
    by_cases q5 : d.kind = 5
    · have HY := Lib.hid (HX.out.trans (stepR_5 q5))
      rw [q5] at x1 b2
      clear q5
      go_wp2_with fail
      refine (HF.out _ b2).mono ?_
      rintro e w2 ⟨rfl, bel2⟩
      have b3 := below_step bel2 b2
      clear bel2 b2 b1 x0 x1 x2 x3 x4 x5 x6 x7
      go_wp2
      go_ret
      exact ⟨ret_str HY.out.symm, b3⟩
    have f5 : (d.kind == 5) = false := beq_eq_false_iff_ne.2 q5
    by_cases q6 : d.kind = 6 ∧ j < d.names.length
    · obtain ⟨q6, q6'⟩ := q6
      obtain ⟨n, rfl⟩ := Int.eq_ofNat_of_zero_le (by omega : 0 ≤ j)
      have hn : n < d.names.length := by omega
      have HY := Lib.hid (HX.out.trans (stepR_6 q6 hn))
      obtain ⟨b', off', rfl, hbB', hc0⟩ := HN.out n hn
      have hd0 := (b2.mono hB).cell (p := ⟨b', off' + n, none⟩) hbB' |>.trans hc0
      rw [q6] at x1 b2 hd0
      clear q5 f5 q6 hc0 HF
      go_wp2
      go_ret
      exact ⟨ret_str HY.out.symm, b2⟩
    clear HN HF
    by_cases hz : 0 < j
    · have HY := Lib.hid (HX.out.trans (stepR_pos q5 q6 hz))
      by_cases r6 : d.kind = 6
      · have hge : (d.names.length : Int) ≤ j := by omega
        rw [r6] at b2 x1
        clear q5 f5 q6 r6
        go_wp2
        go_ret
        exact ⟨ret_str HY.out.symm, b2⟩
      · have f6 : (d.kind == 6) = false := beq_eq_false_iff_ne.2 r6
        clear q5 q6 r6
        go_wp2
        go_ret
        exact ⟨ret_str HY.out.symm, b2⟩
    · obtain rfl : j = 0 := by omega
      have HX0 := Lib.hid (HX.out.trans (stepR_zero q5 q6))
      by_cases r6 : d.kind = 6
      · have hX2 := HX0.out.trans (by rw [if_neg (by omega), if_neg (by omega), if_neg (by omega)])
        have HX2 := Lib.hid hX2
        have hge' : d.names.length = 0 := by omega
        clear hX2 HX HX0
        rw [r6, hge'] at b2
        rw [r6] at x1
        rw [hge'] at x5
        clear q5 f5 q6 r6
        go_wp2
        go_ret
        exact ⟨ret_str HX2.out.symm, b2⟩
      · have f6 : (d.kind == 6) = false := beq_eq_false_iff_ne.2 r6
        clear q5 q6 r6 HX
        by_cases r7 : d.kind = 7
        · have HY := Lib.hid (HX0.out.trans (if_pos r7))
          rw [r7] at b2 x1; clear r7 f5 f6; go_wp2; go_ret; exact ⟨ret_str HY.out.symm, b2⟩
        by_cases r8 : d.kind = 8
        · have HY := Lib.hid (HX0.out.trans ((if_neg r7).trans (if_pos r8)))
          rw [r8] at b2 x1; clear r7 r8 f5 f6; go_wp2; go_ret; exact ⟨ret_str HY.out.symm, b2⟩
        by_cases r9 : d.kind = 9
        · have HY := Lib.hid (HX0.out.trans ((if_neg r7).trans ((if_neg r8).trans (if_pos r9))))
          rw [r9] at b2 x1; clear r7 r8 r9 f5 f6; go_wp2; go_ret; exact ⟨ret_str HY.out.symm, b2⟩
        have HY := Lib.hid (HX0.out.trans ((if_neg r7).trans ((if_neg r8).trans (if_neg r9))))
        have f7 : (d.kind == 7) = false := beq_eq_false_iff_ne.2 r7
        have f8 : (d.kind == 8) = false := beq_eq_false_iff_ne.2 r8
        have f9 : (d.kind == 9) = false := beq_eq_false_iff_ne.2 r9
        clear r7 r8 r9
        go_wp2
        go_ret
        exact ⟨ret_str HY.out.symm, b2⟩
/-- The table of powers of ten, kept on. -/
theorem specStep_law {w : World} {v : Value} {D : List RuleD} {lo hi : Nat} {i j : Int} (h : OwD D lo hi w v) (hk : okD D) (hj : InI64 j) :
    Calls Tryd.prog 13 #[.agg #[v], .int .i64 i, .int .i64 j] w fun e w' => e = .returned (.string (stepOf D i j)) ∧ Below w.heap.size w w' := by
  obtain ⟨l, rfl, s⟩ := h.sl
  exact specStepOf_any v l i j _ w s (Nat.le_refl _) hk.l.1 hk.l.2 hj
theorem implStep_law {w0 w : World} {v : Value} {D : List RuleD} {lo hi : Nat} {i j : Int} (h : OwD D lo hi w v) (hk : okD D) (hj : InI64 j) (ht : Tab w0) (b : Below w0.heap.size w0 w) :
    Calls Tryd.prog 14 #[.agg #[v], .int .i64 i, .int .i64 j] w fun e w' => e = .returned (.string (stepOf D i j)) ∧ Below w.heap.size w w' := by
  obtain ⟨l, rfl, s⟩ := h.sl
  exact implStepOf_any v l i j _ w s (Nat.le_refl _) hk.l.1 hk.l.2 hj (tab_on ht b)
end Go.Proofs.YtkfmdkogifmfmaaDoor
