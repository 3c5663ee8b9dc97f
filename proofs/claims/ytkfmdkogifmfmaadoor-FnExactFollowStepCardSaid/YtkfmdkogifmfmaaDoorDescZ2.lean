/- The walks of IsValidDescription, l7Rule and known. Conditions: the description reads as its rules, which are small. -/
import Derived.Test.YtkfmdkogifmfmaaDoorDescZ
import Derived.WalkSpells
import Derived.WalkLawsBesides
namespace Go.Proofs.YtkfmdkogifmfmaaDoor
set_option linter.unusedSimpArgs false
set_option linter.unusedVariables false
open Go.RowKit
set_option maxHeartbeats 1000000 in
theorem specValid_any (v : Value) (l : List RM) (B : Nat) (w : World) (h : SlD w B v l) (hB : B ≤ w.heap.size) (ok : ∀ r ∈ l, r.d.ok) (sm : ∀ r ∈ l, r.d.small 1048576) :
    Calls Tryd.prog 46 #[.agg #[v]] w fun e w' => e = .returned (.bool (validD (l.map RM.d))) ∧ Below w.heap.size w w' := by
  have hVR : ∀ W i, Below w.heap.size w W → InI64 i → Calls Tryd.prog 56 #[.agg #[v], .int .i64 i] W fun e w' => e = .returned (.bool (validR (l.map RM.d) i)) ∧ Below W.heap.size W w' := fun W i hb hi =>
    specValidRule_any v l i B W (h.below (hb.mono hB)) (by have := hb.size; omega) hi ok sm
  have HVR := Lib.hid hVR
  have HU := Lib.hid (show validD (l.map RM.d) = (allTo (fun k : Nat => validR (l.map RM.d) k) l.length && inB l.length 1 24) by unfold validD; rw [List.length_map])
  obtain ⟨A, c, rfl, hc, hm, -⟩ := h.open_
  unfold maxLen at hm
  clear h hVR ok sm
  generalize l.map RM.d = D at *
  have hbD := Below.allocW w (.cells #[.slice A l.length c] 32) (Nat.le_refl _)
  have cD : (w.alloc (.cells #[.slice A l.length c] 32)).cell? ⟨w.heap.size, 0, none⟩ = some (.slice A l.length c) := by simp [go_sem]
  have hz : (w.alloc (.cells #[.slice A l.length c] 32)).heap.size = w.heap.size + 1 := by simp
  go_enter Tryd.func46, Tryd.ntmps46
  go_wp2_with fail
  generalize (w.alloc (.cells #[.slice A l.length c] 32)) = W0 at *
  go_loopw [3] (fun i wr => ∃ j : Nat, j ≤ l.length ∧ i = .int .i64 j ∧ Below W0.heap.size W0 wr ∧ allTo (fun k : Nat => validR D k) j = true) (fun i _ => l.length - (intOf i).toNat)
  case atStart => exact ⟨0, Nat.zero_le _, rfl, Below.refl _ _, rfl⟩
  case round =>
    obtain ⟨j, hj, rfl, hb, hall⟩ := hrel
    have cr := cell_at hb (show w.heap.size < W0.heap.size by omega) cD
    have hbw := hbD.trans (hb.mono (by omega))
    have hsz := hb.size
    by_cases hlt : j < l.length
    · have hno := allTo_no (fun k : Nat => validR D k) j l.length hlt
      have hst := allTo_step (fun k : Nat => validR D k) j hall
      have hcall := HVR.out wr j hbw ⟨by omega, by omega⟩
      (try simp only at hno hst)
      cases hv : validR D j
      · have HX := Lib.hid (HU.out.trans (show _ = false by rw [hno hv]; rfl))
        rw [hv] at hcall
        have HC := Lib.hid hcall
        have HB := Lib.hid hbw
        clear hno hst hv hcall hall hb hbw
        go_wp2_with fail
        refine HC.out.mono ?_
        rintro e w1 ⟨rfl, bel⟩
        have b1 := below_step bel HB.out
        clear bel
        go_wp2
        go_ret
        exact ⟨ret_bool HX.out.symm, b1⟩
      · have HX := Lib.hid (hst hv)
        rw [hv] at hcall
        have HC := Lib.hid hcall
        have HB := Lib.hid hb
        clear hno hst hv hcall hall hb hbw
        go_wp2_with fail
        refine HC.out.mono ?_
        rintro e w1 ⟨rfl, bel⟩
        have b1 := HB.out.trans (bel.mono hsz)
        clear bel
        go_wp2
        go_roundw
        case rel => exact ⟨j + 1, by omega, by go_num, b1, HX.out⟩
        case measure => simp [intOf]; omega
    · have hjk : j = l.length := by omega
      have HX := Lib.hid (HU.out.trans (show _ = inB l.length 1 24 by rw [← hjk, hall]; rfl))
      clear hjk hall
      go_wp2_with (go_at_call 22; refine (l1In_any _ _ _ _).mono ?_; rintro e w1 ⟨rfl, rfl⟩)
      go_ret
      exact ⟨ret_bool HX.out.symm, hbw⟩
set_option maxHeartbeats 1000000 in
theorem implValid_any (v : Value) (l : List RM) (B : Nat) (w : World) (h : SlD w B v l) (hB : B ≤ w.heap.size) (ok : ∀ r ∈ l, r.d.ok) (sm : ∀ r ∈ l, r.d.small 1048576) :
    Calls Tryd.prog 47 #[.agg #[v]] w fun e w' => e = .returned (.bool (validD (l.map RM.d))) ∧ Below w.heap.size w w' := by
  have hVR : ∀ W i, Below w.heap.size w W → InI64 i → Calls Tryd.prog 57 #[.agg #[v], .int .i64 i] W fun e w' => e = .returned (.bool (validR (l.map RM.d) i)) ∧ Below W.heap.size W w' := fun W i hb hi =>
    implValidRule_any v l i B W (h.below (hb.mono hB)) (by have := hb.size; omega) hi ok sm
  have HVR := Lib.hid hVR
  have HU := Lib.hid (show validD (l.map RM.d) = (allTo (fun k : Nat => validR (l.map RM.d) k) l.length && inB l.length 1 24) by unfold validD; rw [List.length_map])
  obtain ⟨A, c, rfl, hc, hm, -⟩ := h.open_
  unfold maxLen at hm
  clear h hVR ok sm
  generalize l.map RM.d = D at *
  have hbD := Below.allocW w (.cells #[.slice A l.length c] 32) (Nat.le_refl _)
  have cD : (w.alloc (.cells #[.slice A l.length c] 32)).cell? ⟨w.heap.size, 0, none⟩ = some (.slice A l.length c) := by simp [go_sem]
  have hz : (w.alloc (.cells #[.slice A l.length c] 32)).heap.size = w.heap.size + 1 := by simp
  cases hin : inB l.length 1 24
  · have HX := Lib.hid (HU.out.trans (show _ = false by rw [hin]; exact Bool.and_false _))
    have HE := Lib.hid hin
    clear hin HU
    go_enter Tryd.func47, Tryd.ntmps47
    go_wp2_with (go_at_call 53; refine (InRange_any _ _ _ _).mono ?_; rintro e w1 ⟨rfl, rfl⟩; rw [HE.out])
    go_ret
    exact ⟨ret_bool HX.out.symm, hbD⟩
  have HE := Lib.hid hin
  have HU2 := Lib.hid (HU.out.trans (show _ = allTo (fun k : Nat => validR D k) l.length by rw [hin]; exact Bool.and_true _))
  clear hin HU
  go_enter Tryd.func47, Tryd.ntmps47
  go_wp2_with (go_at_call 53; refine (InRange_any _ _ _ _).mono ?_; rintro e w1 ⟨rfl, rfl⟩; rw [HE.out])
  generalize (w.alloc (.cells #[.slice A l.length c] 32)) = W0 at *
  go_loopw [12] (fun i wr => ∃ j : Nat, j ≤ l.length ∧ i = .int .i64 j ∧ Below W0.heap.size W0 wr ∧ allTo (fun k : Nat => validR D k) j = true) (fun i _ => l.length - (intOf i).toNat)
  case atStart => exact ⟨0, Nat.zero_le _, rfl, Below.refl _ _, rfl⟩
  case round =>
    obtain ⟨j, hj, rfl, hb, hall⟩ := hrel
    have cr := cell_at hb (show w.heap.size < W0.heap.size by omega) cD
    have hbw := hbD.trans (hb.mono (by omega))
    have hsz := hb.size
    by_cases hlt : j < l.length
    · have hno := allTo_no (fun k : Nat => validR D k) j l.length hlt
      have hst := allTo_step (fun k : Nat => validR D k) j hall
      have hcall := HVR.out wr j hbw ⟨by omega, by omega⟩
      (try simp only at hno hst)
      cases hv : validR D j
      · have HX := Lib.hid (HU2.out.trans (hno hv))
        rw [hv] at hcall
        have HC := Lib.hid hcall
        have HB := Lib.hid hbw
        clear hno hst hv hcall hall hb hbw
        go_wp2_with fail
        refine HC.out.mono ?_
        rintro e w1 ⟨rfl, bel⟩
        have b1 := below_step bel HB.out
        clear bel
        go_wp2
        go_ret
        exact ⟨ret_bool HX.out.symm, b1⟩
      · have HX := Lib.hid (hst hv)
        rw [hv] at hcall
        have HC := Lib.hid hcall
        have HB := Lib.hid hb
        clear hno hst hv hcall hall hb hbw
        go_wp2_with fail
        refine HC.out.mono ?_
        rintro e w1 ⟨rfl, bel⟩
        have b1 := HB.out.trans (bel.mono hsz)
        clear bel
        go_wp2
        go_roundw
        case rel => exact ⟨j + 1, by omega, by go_num, b1, HX.out⟩
        case measure => simp [intOf]; omega
    · have hjk : j = l.length := by omega
      have HX := Lib.hid (HU2.out.trans (show _ = true by rw [← hjk, hall]))
      clear hjk hall
      go_wp2
      go_ret
      exact ⟨ret_bool HX.out.symm, hbw⟩
set_option maxHeartbeats 1000000 in
theorem specKnown_any (v : Value) (l : List RM) (i : Int) (B : Nat) (w : World) (h : SlD w B v l) (hB : B ≤ w.heap.size) (ok : ∀ r ∈ l, r.d.ok) (sm : ∀ r ∈ l, r.d.small 1048576) :
    Calls Tryd.prog 27 #[.agg #[v], .int .i64 i] w fun e w' => e = .returned (.bool (knownD (l.map RM.d) i)) ∧ Below w.heap.size w w' := by
  have hV : ∀ W, Below w.heap.size w W → Calls Tryd.prog 46 #[.agg #[v]] W fun e w' => e = .returned (.bool (validD (l.map RM.d))) ∧ Below W.heap.size W w' := fun W hb =>
    specValid_any v l B W (h.below (hb.mono hB)) (by have := hb.size; omega) ok sm
  have HV := Lib.hid hV
  have HU := Lib.hid (show knownD (l.map RM.d) i = (inB i 0 ((l.length : Int) - 1) && validD (l.map RM.d)) by unfold knownD; rw [List.length_map])
  obtain ⟨A, c, rfl, hc, hm, -⟩ := h.open_
  unfold maxLen at hm
  clear h hV ok sm
  generalize l.map RM.d = D at *
  have hbD := Below.allocW w (.cells #[.slice A l.length c] 32) (Nat.le_refl _)
  cases hin : inB i 0 ((l.length : Int) - 1)
  · have HX := Lib.hid (HU.out.trans (show _ = false by rw [hin]; rfl))
    have HE := Lib.hid hin
    clear hin HU
    go_enter Tryd.func27, Tryd.ntmps27
    go_wp2_with (go_at_call 22; refine (l1In_any _ _ _ _).mono ?_; rintro e w1 ⟨rfl, rfl⟩; rw [HE.out])
    go_ret
    exact ⟨ret_bool HX.out.symm, hbD⟩
  · have HX := Lib.hid (HU.out.trans (show _ = validD D by rw [hin]; rfl))
    have HE := Lib.hid hin
    clear hin HU
    go_enter Tryd.func27, Tryd.ntmps27
    go_wp2_with (go_at_call 22; refine (l1In_any _ _ _ _).mono ?_; rintro e w1 ⟨rfl, rfl⟩; rw [HE.out])
    refine (HV.out _ hbD).mono ?_
    rintro e w1 ⟨rfl, bel⟩
    have b1 := below_step bel hbD
    clear bel
    go_wp2
    go_ret
    exact ⟨ret_bool HX.out.symm, b1⟩
set_option maxHeartbeats 1000000 in
theorem implKnown_any (v : Value) (l : List RM) (i : Int) (B : Nat) (w : World) (h : SlD w B v l) (hB : B ≤ w.heap.size) (ok : ∀ r ∈ l, r.d.ok) (sm : ∀ r ∈ l, r.d.small 1048576) :
    Calls Tryd.prog 29 #[.agg #[v], .int .i64 i] w fun e w' => e = .returned (.bool (knownD (l.map RM.d) i)) ∧ Below w.heap.size w w' := by
  have hV : ∀ W, Below w.heap.size w W → Calls Tryd.prog 47 #[.agg #[v]] W fun e w' => e = .returned (.bool (validD (l.map RM.d))) ∧ Below W.heap.size W w' := fun W hb =>
    implValid_any v l B W (h.below (hb.mono hB)) (by have := hb.size; omega) ok sm
  have hR : ∀ W, Below w.heap.size w W → Calls Tryd.prog 25 #[.agg #[v], .int .i64 i] W fun e w' => e = .returned (.bool (inB i 0 ((l.length : Int) - 1))) ∧ Below W.heap.size W w' := fun W hb =>
    hasRule_any v l i B W (h.below (hb.mono hB))
  have HV := Lib.hid hV
  have HR := Lib.hid hR
  have HU := Lib.hid (show knownD (l.map RM.d) i = (inB i 0 ((l.length : Int) - 1) && validD (l.map RM.d)) by unfold knownD; rw [List.length_map])
  obtain ⟨A, c, rfl, hc, hm, -⟩ := h.open_
  unfold maxLen at hm
  clear h hV ok sm hR
  generalize l.map RM.d = D at *
  have hbD := Below.allocW w (.cells #[.slice A l.length c] 32) (Nat.le_refl _)
  have cD : (w.alloc (.cells #[.slice A l.length c] 32)).cell? ⟨w.heap.size, 0, none⟩ = some (.slice A l.length c) := by simp [go_sem]
  cases hd : validD D
  · have HX := Lib.hid (HU.out.trans (show _ = false by rw [hd]; exact Bool.and_false _))
    rw [hd] at HV
    clear hd HU
    go_enter Tryd.func29, Tryd.ntmps29
    go_wp2_with fail
    refine (HV.out _ hbD).mono ?_
    rintro e w1 ⟨rfl, bel⟩
    have b1 := below_step bel hbD
    clear bel
    go_wp2
    go_ret
    exact ⟨ret_bool HX.out.symm, b1⟩
  · have HX := Lib.hid (HU.out.trans (show _ = inB i 0 ((l.length : Int) - 1) by rw [hd]; exact Bool.and_true _))
    rw [hd] at HV
    clear hd HU
    go_enter Tryd.func29, Tryd.ntmps29
    go_wp2_with fail
    refine (HV.out _ hbD).mono ?_
    rintro e w1 ⟨rfl, bel⟩
    have b1 := below_step bel hbD
    have c1 := cell_later bel cD
    clear bel
    go_wp2_with fail
    refine (HR.out _ b1).mono ?_
    rintro e w2 ⟨rfl, bel⟩
    have b2 := below_step bel b1
    clear bel
    go_wp2
    go_ret
    exact ⟨ret_bool HX.out.symm, b2⟩
end Go.Proofs.YtkfmdkogifmfmaaDoor
