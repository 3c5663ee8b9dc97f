/- Descriptions: the greatest number of an integer rule. Conditions: the description reads as its rules, their numbers are ints. -/
import Derived.Test.YtkfmdkogifmfmaaDoorDescEq
import Derived.Test.YtkfmdkogifmfmaaDoorNum
import Derived.WalkSpells
import Derived.WalkLawsBesides
namespace Go.Proofs.YtkfmdkogifmfmaaDoor
set_option linter.unusedSimpArgs false
set_option linter.unusedVariables false
open Go.RowKit
/-- The rule with this number. -/
def ruleAt (D : List RuleD) (i : Int) : Option RuleD := if 0 ≤ i then D[i.toNat]? else none
def pow8 (n : Int) : Int := if n = 1 then 256 else if n = 2 then 65536 else if n = 3 then 16777216 else 4294967296
/-- The greatest number of an integer. -/
def limitR (r : RuleD) : Int := if r.kind = 1 ∧ 1 ≤ r.size ∧ r.size ≤ 4 then pow8 r.size - 1 else -1
def limitOf (D : List RuleD) (i : Int) : Int := match ruleAt D i with | none => -1 | some r => limitR r
theorem limitOf_bd (D : List RuleD) (i : Int) : -1 ≤ limitOf D i ∧ limitOf D i ≤ 4294967295 := by
  unfold limitOf
  split
  · omega
  · unfold limitR pow8
    split
    · split <;> (try split) <;> (try split) <;> omega
    · omega
theorem ruleAt_some {D : List RuleD} {i : Int} (h0 : 0 ≤ i) (h1 : i < D.length) : ∃ k : Nat, ∃ hk : k < D.length, i = k ∧ ruleAt D i = some D[k] := by
  obtain ⟨k, rfl⟩ := Int.eq_ofNat_of_zero_le h0
  refine ⟨k, by omega, rfl, ?_⟩
  unfold ruleAt
  rw [if_pos h0]
  simp [List.getElem?_eq_getElem (show k < D.length by omega)]
theorem ruleAt_none {D : List RuleD} {i : Int} (h : i < 0 ∨ (D.length : Int) ≤ i) : ruleAt D i = none := by
  unfold ruleAt
  split
  · rw [List.getElem?_eq_none]; omega
  · rfl
theorem Below.allocW {B : Nat} (w : World) (o : Obj) (h : B ≤ w.heap.size) : Below B w (w.alloc o) := (Below.refl B w).alloc h o
set_option maxHeartbeats 400000 in
theorem l2Power_any (n : Int) (w : World) (h1 : 1 ≤ n) (h2 : n ≤ 4) :
    Calls Tryd.prog 76 #[.int .i64 n] w fun e w' => e = .returned (.int .i64 (pow8 n)) ∧ w = w' := by
  have h : n = 1 ∨ n = 2 ∨ n = 3 ∨ n = 4 := by omega
  rcases h with rfl | rfl | rfl | rfl <;>
  · go_enter Tryd.func76, Tryd.ntmps76
    go_wp2
    go_ret
    exact ⟨rfl, rfl⟩
set_option maxHeartbeats 1000000 in
theorem specLimit_any (v : Value) (l : List RM) (i : Int) (B : Nat) (w : World) (h : SlD w B v l) (hB : B ≤ w.heap.size) (hi : InI64 i) (ok : ∀ r ∈ l, r.d.ok) :
    Calls Tryd.prog 65 #[.agg #[v], .int .i64 i] w fun e w' => e = .returned (.int .i64 (limitOf (l.map RM.d) i)) ∧ Below w.heap.size w w' := by
  obtain ⟨A, c, rfl, hc, hm, hcell⟩ := h.open_
  unfold maxLen at hm
  have hb := Below.allocW w (.cells #[.slice A l.length c] 32) (Nat.le_refl _)
  by_cases hr : 0 ≤ i ∧ i < l.length
  · obtain ⟨k, hk, rfl, hat⟩ := ruleAt_some (D := l.map RM.d) hr.1 (by simpa using hr.2)
    have hkl : k < l.length := by simpa using hk
    obtain ⟨b, off, rfl, hbB, c0, c1, c2, crest⟩ := hcell k hkl
    have hok := ok l[k] (List.getElem_mem hkl)
    have hz := hok.size
    rw [List.getElem_map] at hat
    have hlim : limitOf (l.map RM.d) (k : Int) = limitR l[k].d := by rw [limitOf, hat]
    have d1 := cell_later hb c1
    have d2 := cell_later hb c2
    clear hcell c0 c1 c2 h ok hat crest
    generalize l[k].d = r at *
    have hin : inB (k : Int) 0 ((l.length : Int) - 1) = true := inB_true (by omega) (by omega)
    have HI := Lib.hid hin
    by_cases hk1 : r.kind = 1
    · have e1 : (r.kind != 1) = false := by rw [hk1]; rfl
      by_cases hs : 1 ≤ r.size ∧ r.size ≤ 4
      · have hs4 : inB r.size 1 4 = true := inB_true hs.1 hs.2
        have HS := Lib.hid hs4
        have H := Lib.hid (hlim.trans (show limitR r = pow8 r.size - 1 by rw [limitR, if_pos ⟨hk1, hs⟩]))
        have hp : 256 ≤ pow8 r.size ∧ pow8 r.size ≤ 4294967296 := by
          unfold pow8
          split
          · omega
          · split
            · omega
            · split <;> omega
        clear hlim hin hs4 hk1
        go_enter Tryd.func65, Tryd.ntmps65
        go_wp2_with fail
        refine (l1In_any _ _ _ _).mono ?_
        rintro e w1 ⟨rfl, rfl⟩
        rw [HI.out]
        go_wp2_with fail
        refine (l1In_any _ _ _ _).mono ?_
        rintro e w1 ⟨rfl, rfl⟩
        rw [HS.out]
        go_wp2_with fail
        refine (l2Power_any _ _ hs.1 hs.2).mono ?_
        rintro e w1 ⟨rfl, rfl⟩
        go_wp2
        go_ret
        exact ⟨ret_int H.out.symm, hb⟩
      · have hs4 : inB r.size 1 4 = false := inB_false (by omega)
        have HS := Lib.hid hs4
        have H := Lib.hid (hlim.trans (show limitR r = -1 by rw [limitR, if_neg (by omega)]))
        clear hlim hin hs4 hk1
        go_enter Tryd.func65, Tryd.ntmps65
        go_wp2_with fail
        refine (l1In_any _ _ _ _).mono ?_
        rintro e w1 ⟨rfl, rfl⟩
        rw [HI.out]
        go_wp2_with fail
        refine (l1In_any _ _ _ _).mono ?_
        rintro e w1 ⟨rfl, rfl⟩
        rw [HS.out]
        go_wp2
        go_ret
        exact ⟨ret_int H.out.symm, hb⟩
    · have e1 : (r.kind != 1) = true := by rw [bne_iff_ne]; exact hk1
      have H := Lib.hid (hlim.trans (show limitR r = -1 by rw [limitR, if_neg (by omega)]))
      clear hlim hin hk1
      go_enter Tryd.func65, Tryd.ntmps65
      go_wp2_with fail
      refine (l1In_any _ _ _ _).mono ?_
      rintro e w1 ⟨rfl, rfl⟩
      rw [HI.out]
      go_wp2
      go_ret
      exact ⟨ret_int H.out.symm, hb⟩
  · have hl : limitOf (l.map RM.d) i = -1 := by rw [limitOf, ruleAt_none (by simp; omega)]
    have H := Lib.hid hl
    clear hcell hl
    go_enter Tryd.func65, Tryd.ntmps65
    go_wp2_with fail
    refine (l1In_any _ _ _ _).mono ?_
    rintro e w1 ⟨rfl, rfl⟩
    rw [inB_false (by omega)]
    go_wp2
    go_ret
    exact ⟨ret_int H.out.symm, hb⟩
theorem hasRule_any (v : Value) (l : List RM) (i : Int) (B : Nat) (w : World) (h : SlD w B v l) :
    Calls Tryd.prog 25 #[.agg #[v], .int .i64 i] w fun e w' => e = .returned (.bool (inB i 0 ((l.length : Int) - 1))) ∧ Below w.heap.size w w' := by
  obtain ⟨A, c, rfl, hc, hm, hcell⟩ := h.open_
  unfold maxLen at hm
  have hb := Below.allocW w (.cells #[.slice A l.length c] 32) (Nat.le_refl _)
  clear hcell h
  by_cases h0 : 0 ≤ i
  · by_cases h1 : i < l.length
    · have H := Lib.hid (inB_true (a := 0) (b := (l.length : Int) - 1) h0 (by omega))
      go_enter Tryd.func25, Tryd.ntmps25
      go_wp2
      go_ret
      exact ⟨ret_bool H.out.symm, hb⟩
    · have H := Lib.hid (inB_false (x := i) (a := 0) (b := (l.length : Int) - 1) (by omega))
      go_enter Tryd.func25, Tryd.ntmps25
      go_wp2
      go_ret
      exact ⟨ret_bool H.out.symm, hb⟩
  · have H := Lib.hid (inB_false (x := i) (a := 0) (b := (l.length : Int) - 1) (by omega))
    go_enter Tryd.func25, Tryd.ntmps25
    go_wp2
    go_ret
    exact ⟨ret_bool H.out.symm, hb⟩
set_option maxHeartbeats 1000000 in
theorem implLimit_any (v : Value) (l : List RM) (i : Int) (B : Nat) (w : World) (h : SlD w B v l) (hB : B ≤ w.heap.size) (hi : InI64 i) (ok : ∀ r ∈ l, r.d.ok) :
    Calls Tryd.prog 69 #[.agg #[v], .int .i64 i] w fun e w' => e = .returned (.int .i64 (limitOf (l.map RM.d) i)) ∧ Below w.heap.size w w' := by
  have hH := fun W (hh : SlD W B v l) => hasRule_any v l i B W hh
  have hd := h.below ((Below.refl B w).alloc hB (.cells #[v] 32))
  obtain ⟨A, c, rfl, hc, hm, hcell⟩ := h.open_
  unfold maxLen at hm
  have hb := Below.allocW w (.cells #[.slice A l.length c] 32) (Nat.le_refl _)
  have H1 := Lib.hid (hH _ hd)
  clear hH hd h
  by_cases hr : 0 ≤ i ∧ i < l.length
  · obtain ⟨k, hk, rfl, hat⟩ := ruleAt_some (D := l.map RM.d) hr.1 (by simpa using hr.2)
    have hkl : k < l.length := by simpa using hk
    obtain ⟨b, off, rfl, hbB, c0, c1, c2, crest⟩ := hcell k hkl
    have hok := ok l[k] (List.getElem_mem hkl)
    have hz := hok.size
    rw [List.getElem_map] at hat
    have hlim : limitOf (l.map RM.d) (k : Int) = limitR l[k].d := by rw [limitOf, hat]
    have d1 := cell_later hb c1
    have d2 := cell_later hb c2
    clear hcell c0 c1 c2 ok hat crest
    generalize l[k].d = r at *
    have hin : inB (k : Int) 0 ((l.length : Int) - 1) = true := inB_true (by omega) (by omega)
    have HI := Lib.hid hin
    have hE : (w.alloc (.cells #[.slice (some ⟨b, off, none⟩) l.length c] 32)).cell? ⟨w.heap.size, 0, none⟩ = some (.slice (some ⟨b, off, none⟩) l.length c) := by simp [go_sem]
    by_cases hk1 : r.kind = 1
    · have e1 : (r.kind != 1) = false := by rw [hk1]; rfl
      by_cases hs : 1 ≤ r.size ∧ r.size ≤ 4
      · have hs4 : inB r.size 1 4 = true := inB_true hs.1 hs.2
        have hlim := hlim.trans (show limitR r = pow8 r.size - 1 by rw [limitR, if_pos ⟨hk1, hs⟩])
        clear hin hk1
        have hcs : r.size = 1 ∨ r.size = 2 ∨ r.size = 3 ∨ r.size = 4 := by omega
        rcases hcs with hq | hq | hq | hq <;>
        · rw [hq] at d2 hs4 hlim
          have HS := Lib.hid hs4
          have H := Lib.hid hlim
          clear hlim hs4 hz hs hq
          go_enter Tryd.func69, Tryd.ntmps69
          go_wp2_with fail
          refine H1.out.mono ?_
          rintro e w1 ⟨rfl, hb1⟩
          rw [HI.out]
          have f1 := cell_later hb1 d1
          have f2 := cell_later hb1 d2
          have fE := cell_later hb1 hE
          have HB := Lib.hid (below_step hb1 hb)
          clear hb1 d1 d2 hE
          go_wp2_with fail
          refine (InRange_any _ _ _ _).mono ?_
          rintro e w1 ⟨rfl, rfl⟩
          rw [HS.out]
          go_wp2
          go_ret
          exact ⟨ret_int H.out.symm, HB.out⟩
      · have hs4 : inB r.size 1 4 = false := inB_false (by omega)
        have HS := Lib.hid hs4
        have H := Lib.hid (hlim.trans (show limitR r = -1 by rw [limitR, if_neg (by omega)]))
        clear hlim hin hs4 hk1
        go_enter Tryd.func69, Tryd.ntmps69
        go_wp2_with fail
        refine H1.out.mono ?_
        rintro e w1 ⟨rfl, hb1⟩
        rw [HI.out]
        have f1 := cell_later hb1 d1
        have f2 := cell_later hb1 d2
        have fE := cell_later hb1 hE
        have HB := Lib.hid (below_step hb1 hb)
        clear hb1 d1 d2 hE
        go_wp2_with fail
        refine (InRange_any _ _ _ _).mono ?_
        rintro e w1 ⟨rfl, rfl⟩
        rw [HS.out]
        go_wp2
        go_ret
        exact ⟨ret_int H.out.symm, HB.out⟩
    · have e1 : (r.kind != 1) = true := by rw [bne_iff_ne]; exact hk1
      have H := Lib.hid (hlim.trans (show limitR r = -1 by rw [limitR, if_neg (by omega)]))
      clear hlim hin hk1
      go_enter Tryd.func69, Tryd.ntmps69
      go_wp2_with fail
      refine H1.out.mono ?_
      rintro e w1 ⟨rfl, hb1⟩
      rw [HI.out]
      have f1 := cell_later hb1 d1
      have f2 := cell_later hb1 d2
      have fE := cell_later hb1 hE
      have HB := Lib.hid (below_step hb1 hb)
      clear hb1 d1 d2 hE
      go_wp2
      go_ret
      exact ⟨ret_int H.out.symm, HB.out⟩
  · have hl : limitOf (l.map RM.d) i = -1 := by rw [limitOf, ruleAt_none (by simp; omega)]
    have H := Lib.hid hl
    clear hcell hl
    go_enter Tryd.func69, Tryd.ntmps69
    go_wp2_with fail
    refine H1.out.mono ?_
    rintro e w1 ⟨rfl, hb1⟩
    rw [inB_false (by omega)]
    have HB := Lib.hid (below_step hb1 hb)
    clear hb1
    go_wp2
    go_ret
    exact ⟨ret_int H.out.symm, HB.out⟩
/-- Whether s is among the texts l. -/
def hasT (l : List ByteArray) (s : ByteArray) : Bool := l.any fun x => x.toList == s.toList
theorem hasT_take (l : List ByteArray) (s : ByteArray) (k : Nat) (h : k < l.length) : hasT (l.take (k + 1)) s = (hasT (l.take k) s || l[k].toList == s.toList) := by
  unfold hasT
  rw [List.take_succ_eq_append_getElem h, List.any_append]
  simp
theorem hasT_in (l : List ByteArray) (s : ByteArray) (k : Nat) (h : k < l.length) (he : (l[k].toList == s.toList) = true) : hasT l s = true := by
  unfold hasT
  rw [List.any_eq_true]
  exact ⟨l[k], List.getElem_mem h, he⟩
set_option maxHeartbeats 400000 in
theorem specContains_any (v : Value) (l : List ByteArray) (s : ByteArray) (B : Nat) (w : World) (h : SlS w B v l) :
    Calls Tryd.prog 77 #[v, .string s] w fun e w' => e = .returned (.bool (hasT l s)) ∧ w = w' := by
  obtain ⟨A, c, rfl, hc, hm, hcell⟩ := h.one
  unfold maxLen at hm
  clear h
  go_enter Tryd.func77, Tryd.ntmps77
  go_wp2
  go_loop [5] (fun i => ∃ k : Nat, k ≤ l.length ∧ i = .int .i64 k ∧ hasT (l.take k) s = false) (fun i => l.length - (intOf i).toNat)
  case atStart => exact ⟨0, Nat.zero_le _, rfl, rfl⟩
  case round =>
    obtain ⟨k, hk, rfl, hno⟩ := hrel
    have HN := Lib.hid hno
    clear hno
    by_cases hlt : k < l.length
    · obtain ⟨b, off, rfl, hbB, hc0⟩ := hcell k hlt
      have hT := Lib.hid (hasT_take l s k hlt)
      have hI := Lib.hid (hasT_in l s k hlt)
      clear hcell
      generalize l[k] = y at *
      cases he : (y.toList == s.toList)
      · have H := Lib.hid he
        go_wp2
        go_round
        case rel => exact ⟨k + 1, by omega, by go_num, by rw [hT.out, HN.out, H.out]; rfl⟩
        case measure => simp [intOf]; omega
      · have H := Lib.hid (hI.out he)
        go_wp2
        go_ret
        exact ⟨ret_bool H.out.symm, rfl⟩
    · have HK := Lib.hid (show hasT l s = false by
        have := HN.out
        rwa [show k = l.length by omega, List.take_length] at this)
      clear hcell HN
      go_wp2
      go_ret
      exact ⟨ret_bool HK.out.symm, rfl⟩
set_option maxHeartbeats 400000 in
theorem implContains_any (v : Value) (l : List ByteArray) (s : ByteArray) (B : Nat) (w : World) (h : SlS w B v l) :
    Calls Tryd.prog 78 #[v, .string s] w fun e w' => e = .returned (.bool (hasT l s)) ∧ w = w' := by
  obtain ⟨A, c, rfl, hc, hm, hcell⟩ := h.one
  unfold maxLen at hm
  clear h
  go_enter Tryd.func78, Tryd.ntmps78
  go_wp2
  go_loop [9] (fun i => ∃ k : Nat, k ≤ l.length ∧ i = .int .i64 k ∧ hasT (l.take k) s = false) (fun i => l.length - (intOf i).toNat)
  case atStart => exact ⟨0, Nat.zero_le _, rfl, rfl⟩
  case round =>
    obtain ⟨k, hk, rfl, hno⟩ := hrel
    have HN := Lib.hid hno
    clear hno
    by_cases hlt : k < l.length
    · obtain ⟨b, off, rfl, hbB, hc0⟩ := hcell k hlt
      have hT := Lib.hid (hasT_take l s k hlt)
      have hI := Lib.hid (hasT_in l s k hlt)
      clear hcell
      generalize l[k] = y at *
      cases he : (y.toList == s.toList)
      · have H := Lib.hid he
        go_wp2
        go_round
        case rel => exact ⟨k + 1, by omega, by go_num, by rw [hT.out, HN.out, H.out]; rfl⟩
        case measure => simp [intOf]; omega
      · have H := Lib.hid (hI.out he)
        go_wp2
        go_ret
        exact ⟨ret_bool H.out.symm, rfl⟩
    · have HK := Lib.hid (show hasT l s = false by
        have := HN.out
        rwa [show k = l.length by omega, List.take_length] at this)
      clear hcell HN
      go_wp2
      go_ret
      exact ⟨ret_bool HK.out.symm, rfl⟩
end Go.Proofs.YtkfmdkogifmfmaaDoor
