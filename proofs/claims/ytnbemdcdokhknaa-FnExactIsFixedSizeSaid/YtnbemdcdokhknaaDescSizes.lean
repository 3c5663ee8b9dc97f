/- The walks of MinSize, MaxSize and IsFixedSize. Conditions: the description reads as its rules, which are small. -/
import Derived.Test.YtnbemdcdokhknaaDescMin
import Derived.Test.YtnbemdcdokhknaaDescMax
import Derived.Test.YtnbemdcdokhknaaDescMinI
import Derived.Test.YtnbemdcdokhknaaDescMaxI
import Derived.WalkSpells
import Derived.WalkLawsBesides
namespace Go.Proofs.Ytnbemdcdokhknaa
set_option linter.unusedSimpArgs false
set_option linter.unusedVariables false
open Go.RowKit
theorem run_index_row {P : Program} {t e : TypeId} {n : Nat} {d : TypeDesc} (ht : P.underlying t = some (.array n e)) (he : P.underlying e = some d) (hd : (match d with | .struct _ | .array _ _ => true | _ => false) = false) (hs : ∀ w, (sizeOf e).run P w = .ok 1 w)
    (cs : Array Value) (v : Value) (i : Nat) (h : (i : Int) < n) (hc : cs[i]? = some v) (w : World) : (Instr.index t (.agg cs) (.int .i64 i)).run P w = .ok v w := by
  have hagg : (isAgg e).run P w = .ok false w := by
    unfold isAgg
    rw [Sem.run_bind, run_underlying he w]
    cases d <;> simp_all
  simp [Instr.index, asIntOf, Sem.run_bind, run_underlying ht, h, hs, part, hagg, hc]
  intro hle
  omega
theorem tab_at {o : List Int} {k : Nat} (h : k < o.length) : (tabL o).toArray[k]? = some (.int .i64 o[k]) := by
  rw [List.getElem?_toArray, tabL, List.getElem?_append_left (by simpa using h)]
  simp [h]
theorem minSz_bd (D : List RuleD) (i : Int) : 0 ≤ minSz D i ∧ minSz D i ≤ 401 := by
  unfold minSz
  split
  · exact at0_bd (mins_bd (knownD_valid ‹_›) _ (Nat.le_refl _)) (by omega) i
  · omega
theorem maxSz_bd (D : List RuleD) (i : Int) : 0 ≤ maxSz D i ∧ maxSz D i ≤ 400 := by
  unfold maxSz
  split
  · have := at0_bd (maxsI_bd (knownD_valid ‹_›) _ (Nat.le_refl _)) (by omega) i
    omega
  · omega
def fixedB (D : List RuleD) (i : Int) : Bool := decide (0 < minSz D i) && (minSz D i == maxSz D i && decide (minSz D i < 400))
set_option maxHeartbeats 2000000 in
theorem specMinSize_any (v : Value) (l : List RM) (i : Int) (B : Nat) (w : World) (h : SlD w B v l) (hB : B ≤ w.heap.size) (ok : ∀ r ∈ l, r.d.ok) (sm : ∀ r ∈ l, r.d.small 1048576) :
    Calls Try.prog 21 #[.agg #[v], .int .i64 i] w fun e w' => e = .returned (.int .i64 (minSz (l.map RM.d) i)) ∧ Below w.heap.size w w' := by
  have hK : ∀ W, Below w.heap.size w W → Calls Try.prog 39 #[.agg #[v], .int .i64 i] W fun e w' => e = .returned (.bool (knownD (l.map RM.d) i)) ∧ Below W.heap.size W w' := fun W hb =>
    specKnown_any v l i B W (h.below (hb.mono hB)) (by have := hb.size; omega) ok sm
  have hT : ∀ W, Below w.heap.size w W → validD (l.map RM.d) = true → Calls Try.prog 41 #[.agg #[v]] W (Fresh W 3 1 l.length ((mins (l.map RM.d) l.length).map (.int .i64))) := fun W hb hv =>
    l7Mins_any v l B W (h.below (hb.mono hB)) (by have := hb.size; omega) hv
  obtain ⟨A, c, rfl, hc, hm, -⟩ := h.open_
  unfold maxLen at hm
  have hbD := Below.allocW w (.cells #[.slice A l.length c] 32) (Nat.le_refl _)
  have cD : (w.alloc (.cells #[.slice A l.length c] 32)).cell? ⟨w.heap.size, 0, none⟩ = some (.slice A l.length c) := by simp [go_sem]
  cases hk : knownD (l.map RM.d) i
  · have HX := Lib.hid (show minSz (l.map RM.d) i = 0 by unfold minSz; rw [hk]; rfl)
    rw [hk] at hK
    have HK := Lib.hid hK
    clear hK hk h hT
    go_enter Try.func21, Try.ntmps21
    go_wp2_with fail
    refine (HK.out _ hbD).mono ?_
    rintro e w1 ⟨rfl, bel⟩
    have b1 := below_step bel hbD
    clear bel
    go_wp2
    go_ret
    exact ⟨ret_int HX.out.symm, b1⟩
  · obtain ⟨h0, h1⟩ := knownD_at hk
    have hv := knownD_valid hk
    rw [List.length_map] at h1
    obtain ⟨k, rfl⟩ := Int.eq_ofNat_of_zero_le h0
    have hkl : k < l.length := by omega
    have hlen := (validD_facts hv).1
    rw [List.length_map] at hlen
    have hml := mins_length (l.map RM.d) l.length
    have HX := Lib.hid (show minSz (l.map RM.d) (k : Int) = at0 (mins (l.map RM.d) l.length) (k : Int) by unfold minSz; rw [if_pos hk, List.length_map])
    rw [hk] at hK
    have HK := Lib.hid hK
    have HT := Lib.hid fun W hb => hT W hb hv
    clear hK hk h hT hv ok sm
    generalize mins (l.map RM.d) l.length = mo at *
    have hkm : k < mo.length := by omega
    have ha : at0 mo (k : Int) = mo[k] := at0_at mo k (by omega) hkm
    rw [ha] at HX
    go_enter Try.func21, Try.ntmps21
    go_wp2_with fail
    refine (HK.out _ hbD).mono ?_
    rintro e w1 ⟨rfl, bel⟩
    have b1 := below_step bel hbD
    have cE := cell_later bel cD
    clear bel cD ha
    go_wp2_with fail
    refine (HT.out _ b1).mono ?_
    rintro e w2 ⟨u, rfl, own, bel⟩
    have b2 := below_step bel b1
    obtain ⟨bo, oo, co, rfl, -, hco, -, hoc⟩ := (ownI_sl own hml).alln hml (by omega)
    have hcell := hoc k hkm
    unfold maxLen at hco
    generalize mo[k] = z at *
    clear bel own hoc hml hkm
    go_wp2
    go_ret
    exact ⟨ret_int HX.out.symm, b2⟩
set_option maxHeartbeats 2000000 in
theorem specMaxSize_any (v : Value) (l : List RM) (i : Int) (B : Nat) (w : World) (h : SlD w B v l) (hB : B ≤ w.heap.size) (ok : ∀ r ∈ l, r.d.ok) (sm : ∀ r ∈ l, r.d.small 1048576) :
    Calls Try.prog 23 #[.agg #[v], .int .i64 i] w fun e w' => e = .returned (.int .i64 (maxSz (l.map RM.d) i)) ∧ Below w.heap.size w w' := by
  have hK : ∀ W, Below w.heap.size w W → Calls Try.prog 39 #[.agg #[v], .int .i64 i] W fun e w' => e = .returned (.bool (knownD (l.map RM.d) i)) ∧ Below W.heap.size W w' := fun W hb =>
    specKnown_any v l i B W (h.below (hb.mono hB)) (by have := hb.size; omega) ok sm
  have hT : ∀ W, Below w.heap.size w W → validD (l.map RM.d) = true → Calls Try.prog 43 #[.agg #[v]] W (Fresh W 3 1 l.length ((maxsS (l.map RM.d) l.length).map (.int .i64))) := fun W hb hv =>
    l7Maxs_any v l B W (h.below (hb.mono hB)) (by have := hb.size; omega) hv ok
  obtain ⟨A, c, rfl, hc, hm, -⟩ := h.open_
  unfold maxLen at hm
  have hbD := Below.allocW w (.cells #[.slice A l.length c] 32) (Nat.le_refl _)
  have cD : (w.alloc (.cells #[.slice A l.length c] 32)).cell? ⟨w.heap.size, 0, none⟩ = some (.slice A l.length c) := by simp [go_sem]
  cases hk : knownD (l.map RM.d) i
  · have HX := Lib.hid (show maxSz (l.map RM.d) i = 0 by unfold maxSz; rw [hk]; rfl)
    rw [hk] at hK
    have HK := Lib.hid hK
    clear hK hk h hT
    go_enter Try.func23, Try.ntmps23
    go_wp2_with fail
    refine (HK.out _ hbD).mono ?_
    rintro e w1 ⟨rfl, bel⟩
    have b1 := below_step bel hbD
    clear bel
    go_wp2
    go_ret
    exact ⟨ret_int HX.out.symm, b1⟩
  · obtain ⟨h0, h1⟩ := knownD_at hk
    have hv := knownD_valid hk
    rw [List.length_map] at h1
    obtain ⟨k, rfl⟩ := Int.eq_ofNat_of_zero_le h0
    have hkl : k < l.length := by omega
    have hlen := (validD_facts hv).1
    rw [List.length_map] at hlen
    have hml := maxsS_length (l.map RM.d) l.length
    have HX := Lib.hid (show maxSz (l.map RM.d) (k : Int) = at0 (maxsS (l.map RM.d) l.length) (k : Int) by rw [maxSz_spec hk, List.length_map])
    rw [hk] at hK
    have HK := Lib.hid hK
    have HT := Lib.hid fun W hb => hT W hb hv
    clear hK hk h hT hv ok sm
    generalize maxsS (l.map RM.d) l.length = mo at *
    have hkm : k < mo.length := by omega
    have ha : at0 mo (k : Int) = mo[k] := at0_at mo k (by omega) hkm
    rw [ha] at HX
    go_enter Try.func23, Try.ntmps23
    go_wp2_with fail
    refine (HK.out _ hbD).mono ?_
    rintro e w1 ⟨rfl, bel⟩
    have b1 := below_step bel hbD
    have cE := cell_later bel cD
    clear bel cD ha
    go_wp2_with fail
    refine (HT.out _ b1).mono ?_
    rintro e w2 ⟨u, rfl, own, bel⟩
    have b2 := below_step bel b1
    obtain ⟨bo, oo, co, rfl, -, hco, -, hoc⟩ := (ownI_sl own hml).alln hml (by omega)
    have hcell := hoc k hkm
    unfold maxLen at hco
    generalize mo[k] = z at *
    clear bel own hoc hml hkm
    go_wp2
    go_ret
    exact ⟨ret_int HX.out.symm, b2⟩
set_option maxHeartbeats 2000000 in
theorem implMinSize_any (v : Value) (l : List RM) (i : Int) (B : Nat) (w : World) (h : SlD w B v l) (hB : B ≤ w.heap.size) (ok : ∀ r ∈ l, r.d.ok) (sm : ∀ r ∈ l, r.d.small 1048576) :
    Calls Try.prog 22 #[.agg #[v], .int .i64 i] w fun e w' => e = .returned (.int .i64 (minSz (l.map RM.d) i)) ∧ Below w.heap.size w w' := by
  have hK : ∀ W, Below w.heap.size w W → Calls Try.prog 40 #[.agg #[v], .int .i64 i] W fun e w' => e = .returned (.bool (knownD (l.map RM.d) i)) ∧ Below W.heap.size W w' := fun W hb =>
    implKnown_any v l i B W (h.below (hb.mono hB)) (by have := hb.size; omega) ok sm
  have hT : ∀ W, Below w.heap.size w W → validD (l.map RM.d) = true → Calls Try.prog 42 #[.agg #[v]] W (fun e w' => e = .returned (.agg (tabL (mins (l.map RM.d) l.length)).toArray) ∧ Below W.heap.size W w') := fun W hb hv =>
    leastSizes_any v l B W (h.below (hb.mono hB)) (by have := hb.size; omega) hv
  obtain ⟨A, c, rfl, hc, hm, -⟩ := h.open_
  unfold maxLen at hm
  have hbD := Below.allocW w (.cells #[.slice A l.length c] 32) (Nat.le_refl _)
  have cD : (w.alloc (.cells #[.slice A l.length c] 32)).cell? ⟨w.heap.size, 0, none⟩ = some (.slice A l.length c) := by simp [go_sem]
  cases hk : knownD (l.map RM.d) i
  · have HX := Lib.hid (show minSz (l.map RM.d) i = 0 by unfold minSz; rw [hk]; rfl)
    rw [hk] at hK
    have HK := Lib.hid hK
    clear hK hk h hT
    go_enter Try.func22, Try.ntmps22
    go_wp2_with fail
    refine (HK.out _ hbD).mono ?_
    rintro e w1 ⟨rfl, bel⟩
    have b1 := below_step bel hbD
    clear bel
    go_wp2
    go_ret
    exact ⟨ret_int HX.out.symm, b1⟩
  · obtain ⟨h0, h1⟩ := knownD_at hk
    have hv := knownD_valid hk
    rw [List.length_map] at h1
    obtain ⟨k, rfl⟩ := Int.eq_ofNat_of_zero_le h0
    have hkl : k < l.length := by omega
    have hlen := (validD_facts hv).1
    rw [List.length_map] at hlen
    have hml := mins_length (l.map RM.d) l.length
    have HX := Lib.hid (show minSz (l.map RM.d) (k : Int) = at0 (mins (l.map RM.d) l.length) (k : Int) by unfold minSz; rw [if_pos hk, List.length_map])
    rw [hk] at hK
    have HK := Lib.hid hK
    have HT := Lib.hid fun W hb => hT W hb hv
    clear hK hk h hT hv ok sm
    generalize mins (l.map RM.d) l.length = mo at *
    have hkm : k < mo.length := by omega
    have ha : at0 mo (k : Int) = mo[k] := at0_at mo k (by omega) hkm
    rw [ha] at HX
    go_enter Try.func22, Try.ntmps22
    go_wp2_with fail
    refine (HK.out _ hbD).mono ?_
    rintro e w1 ⟨rfl, bel⟩
    have b1 := below_step bel hbD
    have cE := cell_later bel cD
    clear bel cD ha
    go_wp2_with fail
    refine (HT.out _ b1).mono ?_
    rintro e w2 ⟨rfl, bel⟩
    have b2 := below_step bel b1
    have hidx := run_index_row (P := Try.prog) Try.underlying63 Try.underlying3 rfl Try.sizeOf3 (tabL mo).toArray _ k (by omega) (tab_at hkm)
    generalize mo[k] = z at *
    generalize (tabL mo).toArray = tb at *
    clear bel hml hkm
    go_wp2
    go_ret
    exact ⟨ret_int HX.out.symm, b2⟩
set_option maxHeartbeats 2000000 in
theorem implMaxSize_any (v : Value) (l : List RM) (i : Int) (B : Nat) (w : World) (h : SlD w B v l) (hB : B ≤ w.heap.size) (ok : ∀ r ∈ l, r.d.ok) (sm : ∀ r ∈ l, r.d.small 1048576) :
    Calls Try.prog 24 #[.agg #[v], .int .i64 i] w fun e w' => e = .returned (.int .i64 (maxSz (l.map RM.d) i)) ∧ Below w.heap.size w w' := by
  have hK : ∀ W, Below w.heap.size w W → Calls Try.prog 40 #[.agg #[v], .int .i64 i] W fun e w' => e = .returned (.bool (knownD (l.map RM.d) i)) ∧ Below W.heap.size W w' := fun W hb =>
    implKnown_any v l i B W (h.below (hb.mono hB)) (by have := hb.size; omega) ok sm
  have hT : ∀ W, Below w.heap.size w W → validD (l.map RM.d) = true → Calls Try.prog 45 #[.agg #[v]] W (fun e w' => e = .returned (.agg (tabL (maxsI (l.map RM.d) l.length)).toArray) ∧ Below W.heap.size W w') := fun W hb hv =>
    greatestSizes_any v l B W (h.below (hb.mono hB)) (by have := hb.size; omega) hv ok
  obtain ⟨A, c, rfl, hc, hm, -⟩ := h.open_
  unfold maxLen at hm
  have hbD := Below.allocW w (.cells #[.slice A l.length c] 32) (Nat.le_refl _)
  have cD : (w.alloc (.cells #[.slice A l.length c] 32)).cell? ⟨w.heap.size, 0, none⟩ = some (.slice A l.length c) := by simp [go_sem]
  cases hk : knownD (l.map RM.d) i
  · have HX := Lib.hid (show maxSz (l.map RM.d) i = 0 by unfold maxSz; rw [hk]; rfl)
    rw [hk] at hK
    have HK := Lib.hid hK
    clear hK hk h hT
    go_enter Try.func24, Try.ntmps24
    go_wp2_with fail
    refine (HK.out _ hbD).mono ?_
    rintro e w1 ⟨rfl, bel⟩
    have b1 := below_step bel hbD
    clear bel
    go_wp2
    go_ret
    exact ⟨ret_int HX.out.symm, b1⟩
  · obtain ⟨h0, h1⟩ := knownD_at hk
    have hv := knownD_valid hk
    rw [List.length_map] at h1
    obtain ⟨k, rfl⟩ := Int.eq_ofNat_of_zero_le h0
    have hkl : k < l.length := by omega
    have hlen := (validD_facts hv).1
    rw [List.length_map] at hlen
    have hml := maxsI_length (l.map RM.d) l.length
    have HX := Lib.hid (show maxSz (l.map RM.d) (k : Int) = min 400 (at0 (maxsI (l.map RM.d) l.length) (k : Int)) by unfold maxSz; rw [if_pos hk, List.length_map])
    rw [hk] at hK
    have HK := Lib.hid hK
    have HT := Lib.hid fun W hb => hT W hb hv
    clear hK hk h hT hv ok sm
    generalize maxsI (l.map RM.d) l.length = mo at *
    have hkm : k < mo.length := by omega
    have ha : at0 mo (k : Int) = mo[k] := at0_at mo k (by omega) hkm
    rw [ha] at HX
    go_enter Try.func24, Try.ntmps24
    go_wp2_with fail
    refine (HK.out _ hbD).mono ?_
    rintro e w1 ⟨rfl, bel⟩
    have b1 := below_step bel hbD
    have cE := cell_later bel cD
    clear bel cD ha
    go_wp2_with fail
    refine (HT.out _ b1).mono ?_
    rintro e w2 ⟨rfl, bel⟩
    have b2 := below_step bel b1
    have hidx := run_index_row (P := Try.prog) Try.underlying63 Try.underlying3 rfl Try.sizeOf3 (tabL mo).toArray _ k (by omega) (tab_at hkm)
    generalize mo[k] = z at *
    generalize (tabL mo).toArray = tb at *
    clear bel hml hkm
    go_wp2_with (go_at_call 44; refine (iMin_any _ _ _).mono ?_; rintro e w3 ⟨rfl, bel3⟩; have b3 := below_step bel3 b2; clear bel3)
    go_ret
    exact ⟨ret_int HX.out.symm, b3⟩
set_option maxHeartbeats 2000000 in
theorem specFixed_any (v : Value) (l : List RM) (i : Int) (B : Nat) (w : World) (h : SlD w B v l) (hB : B ≤ w.heap.size) (ok : ∀ r ∈ l, r.d.ok) (sm : ∀ r ∈ l, r.d.small 1048576) :
    Calls Try.prog 25 #[.agg #[v], .int .i64 i] w fun e w' => e = .returned (.bool (fixedB (l.map RM.d) i)) ∧ Below w.heap.size w w' := by
  have hN : ∀ W, Below w.heap.size w W → Calls Try.prog 21 #[.agg #[v], .int .i64 i] W fun e w' => e = .returned (.int .i64 (minSz (l.map RM.d) i)) ∧ Below W.heap.size W w' := fun W hb =>
    specMinSize_any v l i B W (h.below (hb.mono hB)) (by have := hb.size; omega) ok sm
  have hX : ∀ W, Below w.heap.size w W → Calls Try.prog 23 #[.agg #[v], .int .i64 i] W fun e w' => e = .returned (.int .i64 (maxSz (l.map RM.d) i)) ∧ Below W.heap.size W w' := fun W hb =>
    specMaxSize_any v l i B W (h.below (hb.mono hB)) (by have := hb.size; omega) ok sm
  have HN := Lib.hid hN
  have HX := Lib.hid hX
  have hb1 := minSz_bd (l.map RM.d) i
  have hb2 := maxSz_bd (l.map RM.d) i
  have HF := Lib.hid (show fixedB (l.map RM.d) i = (decide (0 < minSz (l.map RM.d) i) && (minSz (l.map RM.d) i == maxSz (l.map RM.d) i && decide (minSz (l.map RM.d) i < 400))) from rfl)
  obtain ⟨A, c, rfl, hc, hm, -⟩ := h.open_
  unfold maxLen at hm
  generalize minSz (l.map RM.d) i = m at *
  generalize maxSz (l.map RM.d) i = x at *
  have hbD := Below.allocW w (.cells #[.slice A l.length c] 32) (Nat.le_refl _)
  have cD : (w.alloc (.cells #[.slice A l.length c] 32)).cell? ⟨w.heap.size, 0, none⟩ = some (.slice A l.length c) := by simp [go_sem]
  clear hN hX h ok sm
  by_cases h0 : 0 < m
  · have HG := Lib.hid (HF.out.trans (show _ = (m == x && decide (m < 400)) by rw [decide_eq_true h0]; rfl))
    cases he : (m == x)
    · have HY := Lib.hid (HG.out.trans (show _ = false by rw [he]; rfl))
      have HE := Lib.hid he
      clear he
      go_enter Try.func25, Try.ntmps25
      go_wp2_with fail
      refine (HN.out _ hbD).mono ?_
      rintro e w1 ⟨rfl, bel⟩
      have b1 := below_step bel hbD
      have cE := cell_later bel cD
      clear bel cD
      go_wp2_with fail
      refine (HX.out _ b1).mono ?_
      rintro e w2 ⟨rfl, bel⟩
      have b2 := below_step bel b1
      have he := HE.out
      clear bel
      go_wp2
      go_ret
      exact ⟨ret_bool HY.out.symm, b2⟩
    · have HY := Lib.hid (HG.out.trans (show _ = decide (m < 400) by rw [he]; rfl))
      have HE := Lib.hid he
      clear he
      go_enter Try.func25, Try.ntmps25
      go_wp2_with fail
      refine (HN.out _ hbD).mono ?_
      rintro e w1 ⟨rfl, bel⟩
      have b1 := below_step bel hbD
      have cE := cell_later bel cD
      clear bel cD
      go_wp2_with fail
      refine (HX.out _ b1).mono ?_
      rintro e w2 ⟨rfl, bel⟩
      have b2 := below_step bel b1
      have he := HE.out
      clear bel
      go_wp2
      go_ret
      exact ⟨ret_bool HY.out.symm, b2⟩
  · have HY := Lib.hid (HF.out.trans (show _ = false by rw [decide_eq_false h0]; rfl))
    go_enter Try.func25, Try.ntmps25
    go_wp2_with fail
    refine (HN.out _ hbD).mono ?_
    rintro e w1 ⟨rfl, bel⟩
    have b1 := below_step bel hbD
    clear bel cD
    go_wp2
    go_ret
    exact ⟨ret_bool HY.out.symm, b1⟩
set_option maxHeartbeats 2000000 in
theorem implFixed_any (v : Value) (l : List RM) (i : Int) (B : Nat) (w : World) (h : SlD w B v l) (hB : B ≤ w.heap.size) (ok : ∀ r ∈ l, r.d.ok) (sm : ∀ r ∈ l, r.d.small 1048576) :
    Calls Try.prog 26 #[.agg #[v], .int .i64 i] w fun e w' => e = .returned (.bool (fixedB (l.map RM.d) i)) ∧ Below w.heap.size w w' := by
  have hN : ∀ W, Below w.heap.size w W → Calls Try.prog 22 #[.agg #[v], .int .i64 i] W fun e w' => e = .returned (.int .i64 (minSz (l.map RM.d) i)) ∧ Below W.heap.size W w' := fun W hb =>
    implMinSize_any v l i B W (h.below (hb.mono hB)) (by have := hb.size; omega) ok sm
  have hX : ∀ W, Below w.heap.size w W → Calls Try.prog 24 #[.agg #[v], .int .i64 i] W fun e w' => e = .returned (.int .i64 (maxSz (l.map RM.d) i)) ∧ Below W.heap.size W w' := fun W hb =>
    implMaxSize_any v l i B W (h.below (hb.mono hB)) (by have := hb.size; omega) ok sm
  have HN := Lib.hid hN
  have HX := Lib.hid hX
  have hb1 := minSz_bd (l.map RM.d) i
  have hb2 := maxSz_bd (l.map RM.d) i
  have HF := Lib.hid (show fixedB (l.map RM.d) i = (decide (0 < minSz (l.map RM.d) i) && (minSz (l.map RM.d) i == maxSz (l.map RM.d) i && decide (minSz (l.map RM.d) i < 400))) from rfl)
  obtain ⟨A, c, rfl, hc, hm, -⟩ := h.open_
  unfold maxLen at hm
  generalize minSz (l.map RM.d) i = m at *
  generalize maxSz (l.map RM.d) i = x at *
  have hbD := Below.allocW w (.cells #[.slice A l.length c] 32) (Nat.le_refl _)
  have cD : (w.alloc (.cells #[.slice A l.length c] 32)).cell? ⟨w.heap.size, 0, none⟩ = some (.slice A l.length c) := by simp [go_sem]
  clear hN hX h ok sm
  by_cases h0 : 0 < m
  · have HG := Lib.hid (HF.out.trans (show _ = (m == x && decide (m < 400)) by rw [decide_eq_true h0]; rfl))
    cases he : (m == x)
    · have HY := Lib.hid (HG.out.trans (show _ = false by rw [he]; rfl))
      have HE := Lib.hid he
      clear he
      go_enter Try.func26, Try.ntmps26
      go_wp2_with fail
      refine (HN.out _ hbD).mono ?_
      rintro e w1 ⟨rfl, bel⟩
      have b1 := below_step bel hbD
      have cE := cell_later bel cD
      clear bel cD
      go_wp2_with fail
      refine (HX.out _ b1).mono ?_
      rintro e w2 ⟨rfl, bel⟩
      have b2 := below_step bel b1
      have he := HE.out
      clear bel
      go_wp2
      go_ret
      exact ⟨ret_bool HY.out.symm, b2⟩
    · have HY := Lib.hid (HG.out.trans (show _ = decide (m < 400) by rw [he]; rfl))
      have HE := Lib.hid he
      clear he
      go_enter Try.func26, Try.ntmps26
      go_wp2_with fail
      refine (HN.out _ hbD).mono ?_
      rintro e w1 ⟨rfl, bel⟩
      have b1 := below_step bel hbD
      have cE := cell_later bel cD
      clear bel cD
      go_wp2_with fail
      refine (HX.out _ b1).mono ?_
      rintro e w2 ⟨rfl, bel⟩
      have b2 := below_step bel b1
      have he := HE.out
      clear bel
      go_wp2
      go_ret
      exact ⟨ret_bool HY.out.symm, b2⟩
  · have HY := Lib.hid (HF.out.trans (show _ = false by rw [decide_eq_false h0]; rfl))
    go_enter Try.func26, Try.ntmps26
    go_wp2_with fail
    refine (HN.out _ hbD).mono ?_
    rintro e w1 ⟨rfl, bel⟩
    have b1 := below_step bel hbD
    clear bel cD
    go_wp2
    go_ret
    exact ⟨ret_bool HY.out.symm, b1⟩
theorem specMinSize_law {w : World} {v : Value} {D : List RuleD} {lo hi : Nat} {i : Int} (h : OwD D lo hi w v) (hk : okD D) :
    Calls Try.prog 21 #[.agg #[v], .int .i64 i] w fun e w' => e = .returned (.int .i64 (minSz D i)) ∧ Below w.heap.size w w' := by
  obtain ⟨l, rfl, s⟩ := h.sl
  exact specMinSize_any v l i _ w s (Nat.le_refl _) hk.l.1 hk.l.2
theorem implMinSize_law {w : World} {v : Value} {D : List RuleD} {lo hi : Nat} {i : Int} (h : OwD D lo hi w v) (hk : okD D) :
    Calls Try.prog 22 #[.agg #[v], .int .i64 i] w fun e w' => e = .returned (.int .i64 (minSz D i)) ∧ Below w.heap.size w w' := by
  obtain ⟨l, rfl, s⟩ := h.sl
  exact implMinSize_any v l i _ w s (Nat.le_refl _) hk.l.1 hk.l.2
theorem specMaxSize_law {w : World} {v : Value} {D : List RuleD} {lo hi : Nat} {i : Int} (h : OwD D lo hi w v) (hk : okD D) :
    Calls Try.prog 23 #[.agg #[v], .int .i64 i] w fun e w' => e = .returned (.int .i64 (maxSz D i)) ∧ Below w.heap.size w w' := by
  obtain ⟨l, rfl, s⟩ := h.sl
  exact specMaxSize_any v l i _ w s (Nat.le_refl _) hk.l.1 hk.l.2
theorem implMaxSize_law {w : World} {v : Value} {D : List RuleD} {lo hi : Nat} {i : Int} (h : OwD D lo hi w v) (hk : okD D) :
    Calls Try.prog 24 #[.agg #[v], .int .i64 i] w fun e w' => e = .returned (.int .i64 (maxSz D i)) ∧ Below w.heap.size w w' := by
  obtain ⟨l, rfl, s⟩ := h.sl
  exact implMaxSize_any v l i _ w s (Nat.le_refl _) hk.l.1 hk.l.2
theorem specIsFixedSize_law {w : World} {v : Value} {D : List RuleD} {lo hi : Nat} {i : Int} (h : OwD D lo hi w v) (hk : okD D) :
    Calls Try.prog 25 #[.agg #[v], .int .i64 i] w fun e w' => e = .returned (.bool (fixedB D i)) ∧ Below w.heap.size w w' := by
  obtain ⟨l, rfl, s⟩ := h.sl
  exact specFixed_any v l i _ w s (Nat.le_refl _) hk.l.1 hk.l.2
theorem implIsFixedSize_law {w : World} {v : Value} {D : List RuleD} {lo hi : Nat} {i : Int} (h : OwD D lo hi w v) (hk : okD D) :
    Calls Try.prog 26 #[.agg #[v], .int .i64 i] w fun e w' => e = .returned (.bool (fixedB D i)) ∧ Below w.heap.size w w' := by
  obtain ⟨l, rfl, s⟩ := h.sl
  exact implFixed_any v l i _ w s (Nat.le_refl _) hk.l.1 hk.l.2
end Go.Proofs.Ytnbemdcdokhknaa
