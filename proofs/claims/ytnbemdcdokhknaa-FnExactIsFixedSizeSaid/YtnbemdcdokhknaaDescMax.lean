/- The walk of spec.l7Maxs. Conditions: the description reads as its rules, and is valid. -/
import Derived.Test.YtnbemdcdokhknaaDescM
import Derived.Test.YtnbemdcdokhknaaDescAlt
import Derived.Test.YtnbemdcdokhknaaIntRow
import Derived.WalkSpells
import Derived.WalkLawsBesides
namespace Go.Proofs.Ytnbemdcdokhknaa
set_option linter.unusedSimpArgs false
set_option linter.unusedVariables false
open Go.RowKit
set_option maxHeartbeats 8000000 in
set_option maxRecDepth 100000 in
theorem l7Maxs_any (v : Value) (l : List RM) (B : Nat) (w : World) (h : SlD w B v l) (hB : B ≤ w.heap.size) (hv : validD (l.map RM.d) = true) (ok : ∀ r ∈ l, r.d.ok) :
    Calls Try.prog 43 #[.agg #[v]] w (Fresh w 3 1 l.length ((maxsS (l.map RM.d) l.length).map (.int .i64))) := by
  obtain ⟨i0, hi, hz0, hz1, hz2⟩ := info_parts Try.info_i64
  have hF := validD_facts hv
  have hbd := maxsS_bd hv
  have hlen := hF.1
  rw [List.length_map] at hlen hbd
  have hLM : ∀ W i, Below w.heap.size w W → InI64 i → Calls Try.prog 57 #[.agg #[v], .int .i64 i] W fun e w' => e = .returned (.int .i64 (limitOf (l.map RM.d) i)) ∧ Below W.heap.size W w' := fun W i hb hi =>
    specLimit_any v l i B W (h.below (hb.mono hB)) (by have := hb.size; omega) hi ok
  have HLM := Lib.hid hLM
  have hlb := fun i => limitOf_bd (l.map RM.d) i
  have HLB := Lib.hid hlb
  clear hLM hlb
  have hR : ∀ k (hk : k < l.length), RuleF (l.map RM.d) k l[k].d ∧ (∀ W, Below w.heap.size w W → SlI W B l[k].vk l[k].d.kids) ∧ (l.map RM.d).getD k default = l[k].d := fun k hk => by
    refine ⟨?_, fun W hb => (h.2 l[k] (List.getElem_mem hk)).k.below (hb.mono hB), ?_⟩
    · have := hF.2 k (by simpa using hk)
      rwa [List.getElem_map] at this
    · rw [getD_at (by simpa using hk), List.getElem_map]
  have HR := Lib.hid hR
  have HBD := Lib.hid hbd
  obtain ⟨A, c, rfl, hc, hm, -⟩ := h.open_
  have hcl := fun k hk => rule_cells h k hk
  have HC := Lib.hid hcl
  unfold maxLen at hm
  clear hF hR hbd hv hcl
  generalize l.map RM.d = D at *
  have hbD := Below.allocW w (.cells #[.slice A l.length c] 32) (Nat.le_refl _)
  have cD : (w.alloc (.cells #[.slice A l.length c] 32)).cell? ⟨w.heap.size, 0, none⟩ = some (.slice A l.length c) := by simp [go_sem]
  have hbE : Below w.heap.size w ((w.alloc (.cells #[.slice A l.length c] 32)).alloc (.cells #[] 3)) := hbD.alloc (by simp) _
  have hoE : ((w.alloc (.cells #[.slice A l.length c] 32)).alloc (.cells #[] 3)).ownsRow (w.heap.size + 1) 3 1 (.slice (some ⟨w.heap.size + 1, 0, none⟩) 0 0) 0 [] := own_empty_at (by simp) (by omega)
  have cE := cell_later (Below.allocW (w.alloc (.cells #[.slice A l.length c] 32)) (.cells #[] 3) (Nat.le_refl _)) cD
  have hzE : ((w.alloc (.cells #[.slice A l.length c] 32)).alloc (.cells #[] 3)).heap.size = w.heap.size + 2 := by simp
  clear hbD cD
  go_enter Try.func43, Try.ntmps43
  go_wp2_with fail
  generalize ((w.alloc (.cells #[.slice A l.length c] 32)).alloc (.cells #[] 3)) = W0 at *
  go_loopw [3, 4] (fun q i wr => ∃ k : Nat, k ≤ l.length ∧ i = .int .i64 k ∧ wr.ownsRow (w.heap.size + 1) 3 1 q k ((maxsS D k).map (.int .i64)) ∧ Below (w.heap.size + 1) W0 wr) (fun _ i _ => l.length - (intOf i).toNat)
  case atStart => exact ⟨0, Nat.zero_le _, rfl, hoE, Below.refl _ _⟩
  case round =>
    clear hoE
    obtain ⟨k, hk, rfl, hown, hb0⟩ := hrel
    have hcD := cell_at hb0 (Nat.lt_succ_self _) cE
    have hb := hbE.trans (hb0.mono (by omega))
    have hszr : w.heap.size + 2 ≤ wr.heap.size := by have := hb0.size; omega
    have hbE0 := Lib.hid hbE
    have hzE0 : w.heap.size + 2 ≤ W0.heap.size := by omega
    clear cE hzE hbE
    by_cases hlt : k < l.length
    · obtain ⟨b, off, A1, c1, A2, c2, A3, c3, A4, c4, rfl, hbB, -, -, -, e4, m1, m2, m3, m4, hcell⟩ := HC.out k hlt
      obtain ⟨hf, hkid, hgd⟩ := HR.out k hlt
      obtain ⟨x0, x1, x2, x3, x4, x5, x6, x7⟩ := hcell wr (below_cells hb hB)
      have hkid := hkid wr hb
      have hmlen := maxsS_length D k
      have hob := HBD.out k (by omega)
      have hso := ownI_sl hown hmlen
      generalize hmo : maxsS D k = mo at *
      rw [e4] at hkid
      clear e4 hcell
      generalize l[k] = r at *
      have hnx : maxsS D (k + 1) = mo ++ [min 400 (mxOfS D mo r.d)] := by rw [maxsS, hmo, hgd]
      obtain ⟨mv, hmv⟩ : ∃ m, m = min 400 (mxOfS D mo r.d) := ⟨_, rfl⟩
      have HNX := Lib.hid (show mo.map (Value.int .i64) ++ [.int .i64 mv] = (maxsS D (k + 1)).map (.int .i64) by rw [hnx, hmv, List.map_append]; rfl)
      have HMV := Lib.hid hmv
      have HOWN := Lib.hid hown
      have HB := Lib.hid hb0
      unfold maxLen at m1 m4
      have hkx := hf.kids
      have hkind := hf.kind
      have hsize := hf.size
      clear hnx hmv hown hgd hmo m2 m3 hb hb0
      by_cases q1 : r.d.kind = 1
      · have HM := Lib.hid (show mxOfS D mo r.d = r.d.size by unfold mxOfS; rw [if_pos q1])
        rw [q1] at x1
        clear q1
        clear hkid hso hkx hf
        have HM2 := Lib.hid (show min 400 (r.d.size) = mv by rw [HMV.out]; rw [HM.out])
        go_wp2_with (first | (go_at_call 54; refine (specMin_any _ _ _).mono ?_; rintro e w1 ⟨rfl, rfl⟩; rw [HM2.out]) | (at_builtin; refine wpList_app _ rfl (.tmp 134) (.tmp 137) 50 rfl (w.heap.size + 1) 3 i0 (.int .i64 0) 1 8 Try.underlying50 hi hz0 hz1 hz2 rfl (by decide) _ k _ rfl (own_below HOWN.out (by repeat (first | exact Below.refl _ _ | assumption | refine Below.alloc ?_ (by first | omega | (simp <;> omega)) _ | refine Below.setCell ?_ (by first | omega | (simp <;> omega)) _ | refine Below.drew ?_ | refine below_drewN ?_ _)) (Nat.le_refl _)) _ 1 _ [.int .i64 mv] rfl (slI_one (by simp)) (by simp [Value.oneCell']) (by omega) (by unfold maxLen; omega) (by simp; omega) ?_; intro v1 w1 own1 hg1 _))
        have hb1 := below_app hg1 (own_below HOWN.out (by repeat (first | exact Below.refl _ _ | assumption | refine Below.alloc ?_ (by first | omega | (simp <;> omega)) _ | refine Below.setCell ?_ (by first | omega | (simp <;> omega)) _ | refine Below.drew ?_ | refine below_drewN ?_ _)) (Nat.le_refl _)) (Nat.le_refl _) (by simp; omega) ((HB.out.alloc (by omega) _).alloc (by simp; omega) _)
        rw [HNX.out] at own1
        have H := Lib.hid (And.intro own1 hb1)
        clear own1 hb1 hg1
        go_roundw
        case rel => exact ⟨k + 1, by omega, by go_num, H.out.1, H.out.2⟩
        case measure => simp [intOf]; omega
      by_cases q2 : r.d.kind = 2
      · have HM := Lib.hid (show mxOfS D mo r.d = (r.d.bytes.length : Int) by unfold mxOfS; rw [if_neg q1, if_pos q2])
        rw [q2] at x1
        clear q2
        clear hkid hso hkx hf
        have HM2 := Lib.hid (show min 400 ((r.d.bytes.length : Int)) = mv by rw [HMV.out]; rw [HM.out])
        go_wp2_with (first | (go_at_call 54; refine (specMin_any _ _ _).mono ?_; rintro e w1 ⟨rfl, rfl⟩; rw [HM2.out]) | (at_builtin; refine wpList_app _ rfl (.tmp 134) (.tmp 137) 50 rfl (w.heap.size + 1) 3 i0 (.int .i64 0) 1 8 Try.underlying50 hi hz0 hz1 hz2 rfl (by decide) _ k _ rfl (own_below HOWN.out (by repeat (first | exact Below.refl _ _ | assumption | refine Below.alloc ?_ (by first | omega | (simp <;> omega)) _ | refine Below.setCell ?_ (by first | omega | (simp <;> omega)) _ | refine Below.drew ?_ | refine below_drewN ?_ _)) (Nat.le_refl _)) _ 1 _ [.int .i64 mv] rfl (slI_one (by simp)) (by simp [Value.oneCell']) (by omega) (by unfold maxLen; omega) (by simp; omega) ?_; intro v1 w1 own1 hg1 _))
        have hb1 := below_app hg1 (own_below HOWN.out (by repeat (first | exact Below.refl _ _ | assumption | refine Below.alloc ?_ (by first | omega | (simp <;> omega)) _ | refine Below.setCell ?_ (by first | omega | (simp <;> omega)) _ | refine Below.drew ?_ | refine below_drewN ?_ _)) (Nat.le_refl _)) (Nat.le_refl _) (by simp; omega) ((HB.out.alloc (by omega) _).alloc (by simp; omega) _)
        rw [HNX.out] at own1
        have H := Lib.hid (And.intro own1 hb1)
        clear own1 hb1 hg1
        go_roundw
        case rel => exact ⟨k + 1, by omega, by go_num, H.out.1, H.out.2⟩
        case measure => simp [intOf]; omega
      by_cases q3 : r.d.kind = 3
      · have HM := Lib.hid (show mxOfS D mo r.d = r.d.size by unfold mxOfS; rw [if_neg q1, if_neg q2, if_pos q3])
        rw [q3] at x1
        clear q3
        clear hkid hso hkx hf
        have HM2 := Lib.hid (show min 400 (r.d.size) = mv by rw [HMV.out]; rw [HM.out])
        go_wp2_with (first | (go_at_call 54; refine (specMin_any _ _ _).mono ?_; rintro e w1 ⟨rfl, rfl⟩; rw [HM2.out]) | (at_builtin; refine wpList_app _ rfl (.tmp 134) (.tmp 137) 50 rfl (w.heap.size + 1) 3 i0 (.int .i64 0) 1 8 Try.underlying50 hi hz0 hz1 hz2 rfl (by decide) _ k _ rfl (own_below HOWN.out (by repeat (first | exact Below.refl _ _ | assumption | refine Below.alloc ?_ (by first | omega | (simp <;> omega)) _ | refine Below.setCell ?_ (by first | omega | (simp <;> omega)) _ | refine Below.drew ?_ | refine below_drewN ?_ _)) (Nat.le_refl _)) _ 1 _ [.int .i64 mv] rfl (slI_one (by simp)) (by simp [Value.oneCell']) (by omega) (by unfold maxLen; omega) (by simp; omega) ?_; intro v1 w1 own1 hg1 _))
        have hb1 := below_app hg1 (own_below HOWN.out (by repeat (first | exact Below.refl _ _ | assumption | refine Below.alloc ?_ (by first | omega | (simp <;> omega)) _ | refine Below.setCell ?_ (by first | omega | (simp <;> omega)) _ | refine Below.drew ?_ | refine below_drewN ?_ _)) (Nat.le_refl _)) (Nat.le_refl _) (by simp; omega) ((HB.out.alloc (by omega) _).alloc (by simp; omega) _)
        rw [HNX.out] at own1
        have H := Lib.hid (And.intro own1 hb1)
        clear own1 hb1 hg1
        go_roundw
        case rel => exact ⟨k + 1, by omega, by go_num, H.out.1, H.out.2⟩
        case measure => simp [intOf]; omega
      by_cases q4 : r.d.kind = 4
      · have hk1 : r.d.kids.length = 1 := (hf.c4 q4).1
        have hlim := lim_nonneg hf (by omega)
        have hkp : 0 < r.d.kids.length := by omega
        obtain ⟨bk, ok, ck, ek, -, -, hbk, hkc⟩ := hkid.all hkp
        simp only [Value.slice.injEq] at ek
        obtain ⟨rfl, -, rfl⟩ := ek
        have hx00 := hkx _ (List.getElem_mem hkp)
        obtain ⟨bo, oo, co, rfl, hco1, hco2, hbo, hoc⟩ := hso.alln hmlen (by omega)
        unfold maxLen at hco2
        have hp0 : 0 < r.d.kids.length := by omega
        have hx0 := hkx _ (List.getElem_mem hp0)
        have hc0 := hkc 0 hp0
        have hkd0 : kid r.d 0 = r.d.kids[0] := kid_at r.d 0 hp0
        generalize hyg0 : r.d.kids[0] = y0 at *
        have HYG0 := Lib.hid hyg0
        clear hyg0
        obtain ⟨n0, rfl⟩ := Int.eq_ofNat_of_zero_le hx0.1
        have hn0 : n0 < mo.length := by omega
        have ho0 := hoc n0 hn0
        have ha0 : at0 mo ((n0 : Nat) : Int) = mo[n0] := at0_at mo n0 (by omega) hn0
        have hbd0 := at0_bd hob (by omega) ((n0 : Nat) : Int)
        rw [ha0] at hbd0
        generalize mo[n0] = z0 at *
        have fc0 := cell_later (Below.allocW wr (.cells #[.string r.d.name, .int .i64 4, .int .i64 r.d.size, .bool r.d.little, .slice A1 r.d.bytes.length c1, .slice A2 r.d.names.length c2, .slice A3 r.d.tags.length c3, .slice (some ⟨bk, ok, none⟩) r.d.kids.length c4] 52) (Nat.le_refl _)) hc0
        have fo0 := cell_later (Below.allocW wr (.cells #[.string r.d.name, .int .i64 4, .int .i64 r.d.size, .bool r.d.little, .slice A1 r.d.bytes.length c1, .slice A2 r.d.names.length c2, .slice A3 r.d.tags.length c3, .slice (some ⟨bk, ok, none⟩) r.d.kids.length c4] 52) (Nat.le_refl _)) ho0
        have hnk0 : n0 < k := by omega
        have hkz0 : (0 : Int) < r.d.kids.length := by omega
        rw [Nat.add_zero] at fc0
        have HM := Lib.hid (show mxOfS D mo r.d = z0 + min 400 (limitOf D ((n0 : Nat) : Int)) by unfold mxOfS; rw [if_neg q1, if_neg q2, if_neg q3, if_pos q4]; rw [hkd0, ha0])
        rw [q4] at x1
        clear q4
        rw [hkd0] at hlim
        have hb0n := HLB.out ((n0 : Nat) : Int)
        have hLM : ∀ W, Below w.heap.size w W → Calls Try.prog 57 #[.agg #[.slice (some ⟨b, off, none⟩) l.length c], .int .i64 ((n0 : Nat) : Int)] W fun e w' => e = .returned (.int .i64 (limitOf D ((n0 : Nat) : Int))) ∧ Below W.heap.size W w' := fun W hb => HLM.out W _ hb ⟨by omega, by omega⟩
        generalize limitOf D ((n0 : Nat) : Int) = lim at *
        have HLMk := Lib.hid hLM
        clear hLM
        obtain ⟨mm, hmm⟩ : ∃ m, m = min 400 lim := ⟨_, rfl⟩
        have hmmb : 0 ≤ mm ∧ mm ≤ 400 := by omega
        rw [← hmm] at HM
        have HMM := Lib.hid hmm.symm
        clear hmm
        have HML := Lib.hid hmlen
        clear hmlen hkc hoc hkx hf hob hkid hso hk1 hc0 ho0 ha0 hkd0 hn0 hx0 HYG0
        have bW : Below w.heap.size w (wr.alloc (.cells #[.string r.d.name, .int .i64 4, .int .i64 r.d.size, .bool r.d.little, .slice A1 r.d.bytes.length c1, .slice A2 r.d.names.length c2, .slice A3 r.d.tags.length c3, .slice (some ⟨bk, ok, none⟩) r.d.kids.length c4] 52)) := (hbE0.out.trans (HB.out.mono (by omega))).alloc (by omega) _
        have fD := cell_later (Below.allocW wr (.cells #[.string r.d.name, .int .i64 4, .int .i64 r.d.size, .bool r.d.little, .slice A1 r.d.bytes.length c1, .slice A2 r.d.names.length c2, .slice A3 r.d.tags.length c3, .slice (some ⟨bk, ok, none⟩) r.d.kids.length c4] 52) (Nat.le_refl _)) hcD
        have f7 : (wr.alloc (.cells #[.string r.d.name, .int .i64 4, .int .i64 r.d.size, .bool r.d.little, .slice A1 r.d.bytes.length c1, .slice A2 r.d.names.length c2, .slice A3 r.d.tags.length c3, .slice (some ⟨bk, ok, none⟩) r.d.kids.length c4] 52)).cell? ⟨wr.heap.size, 7, none⟩ = some (.slice (some ⟨bk, ok, none⟩) r.d.kids.length c4) := by simp [go_sem]
        go_wp2_with fail
        refine wp_region_held_drew (S := (fun w9 => w9.cell? ⟨w.heap.size, 0, none⟩ = some (.slice (some ⟨b, off, none⟩) l.length c) ∧ w9.cell? ⟨wr.heap.size, 7, none⟩ = some (.slice (some ⟨bk, ok, none⟩) r.d.kids.length c4) ∧ w9.cell? ⟨bk, ok, none⟩ = some (.int .i64 ((n0 : Nat) : Int)) ∧ w9.cell? ⟨bo, oo + n0, none⟩ = some (.int .i64 z0))) (by kernel_rfl) ?_ (fun hHeld => ?_)
        · (try dsimp only); exact ⟨fD, f7, fc0, fo0⟩
        refine rgTake 0 (some 36) rfl rfl (by kernel_rfl) (by kernel_rfl) (by kernel_rfl) (fun _ _ _ _ h => h) (by rfl) hHeld ?_ ?_ ?_; rotate_left
        · (intro w9 hSw; (try dsimp only at hSw); go_simp; try with_reducible rfl)
        try simp only [Act.put, List.setIfInBounds_toArray, List.set_cons_zero, List.set_cons_succ]
        refine rgTake 1 (some 37) rfl rfl (by kernel_rfl) (by kernel_rfl) (by kernel_rfl) (fun _ _ _ _ h => h) (by rfl) hHeld ?_ ?_ ?_; rotate_left
        · (intro w9 hSw; (try dsimp only at hSw); go_simp; try with_reducible rfl)
        try simp only [Act.put, List.setIfInBounds_toArray, List.set_cons_zero, List.set_cons_succ]
        refine rgTake 2 (some 38) rfl rfl (by kernel_rfl) (by kernel_rfl) (by kernel_rfl) (fun _ _ _ _ h => h) (by rfl) hHeld ?_ ?_ ?_; rotate_left
        · (intro w9 hSw; (try dsimp only at hSw); go_simp; try with_reducible rfl)
        try simp only [Act.put, List.setIfInBounds_toArray, List.set_cons_zero, List.set_cons_succ]
        refine rgTake 3 (some 39) rfl rfl (by kernel_rfl) (by kernel_rfl) (by kernel_rfl) (fun _ _ _ _ h => h) (by rfl) hHeld ?_ ?_ ?_; rotate_left
        · (intro w9 hSw; (try dsimp only at hSw); go_simp; try with_reducible rfl)
        try simp only [Act.put, List.setIfInBounds_toArray, List.set_cons_zero, List.set_cons_succ]
        refine rgTake 4 (some 40) rfl rfl (by kernel_rfl) (by kernel_rfl) (by kernel_rfl) (fun _ _ _ _ h => h) (by rfl) hHeld ?_ ?_ ?_; rotate_left
        · (intro w9 hSw; (try dsimp only at hSw); go_simp; try with_reducible rfl)
        try simp only [Act.put, List.setIfInBounds_toArray, List.set_cons_zero, List.set_cons_succ]
        refine rgTake 5 (some 41) rfl rfl (by kernel_rfl) (by kernel_rfl) (by kernel_rfl) (fun _ _ _ _ h => h) (by rfl) hHeld ?_ ?_ ?_; rotate_left
        · (intro w9 hSw; (try dsimp only at hSw); go_simp; try with_reducible rfl)
        try simp only [Act.put, List.setIfInBounds_toArray, List.set_cons_zero, List.set_cons_succ]
        refine rgTake 6 (some 42) rfl rfl (by kernel_rfl) (by kernel_rfl) (by kernel_rfl) (fun _ _ _ _ h => h) (by rfl) hHeld ?_ ?_ ?_; rotate_left
        · (intro w9 hSw; (try dsimp only at hSw); go_simp; try with_reducible rfl)
        try simp only [Act.put, List.setIfInBounds_toArray, List.set_cons_zero, List.set_cons_succ]
        refine rgTake 7 (some 43) rfl rfl (by kernel_rfl) (by kernel_rfl) (by kernel_rfl) (fun _ _ _ _ h => h) (by rfl) hHeld ?_ ?_ ?_; rotate_left
        · (intro w9 hSw; (try dsimp only at hSw); go_simp; try with_reducible rfl)
        try simp only [Act.put, List.setIfInBounds_toArray, List.set_cons_zero, List.set_cons_succ]
        refine rgTake 8 (some 44) rfl rfl (by kernel_rfl) (by kernel_rfl) (by kernel_rfl) (fun _ _ _ _ h => h) (by rfl) hHeld ?_ ?_ ?_; rotate_left
        · (intro w9 hSw; (try dsimp only at hSw); go_simp; try with_reducible rfl)
        try simp only [Act.put, List.setIfInBounds_toArray, List.set_cons_zero, List.set_cons_succ]
        refine rgTake 9 (some 45) rfl rfl (by kernel_rfl) (by kernel_rfl) (by kernel_rfl) (fun _ _ _ _ h => h) (by rfl) hHeld ?_ ?_ ?_; rotate_left
        · (intro w9 hSw; (try dsimp only at hSw); go_simp; try with_reducible rfl)
        try simp only [Act.put, List.setIfInBounds_toArray, List.set_cons_zero, List.set_cons_succ]
        refine rgTake 10 (some 46) rfl rfl (by kernel_rfl) (by kernel_rfl) (by kernel_rfl) (fun _ _ _ _ h => h) (by rfl) hHeld ?_ ?_ ?_; rotate_left
        · (intro w9 hSw; (try dsimp only at hSw); go_simp; try with_reducible rfl)
        try simp only [Act.put, List.setIfInBounds_toArray, List.set_cons_zero, List.set_cons_succ]
        refine rgTake 11 (some 47) rfl rfl (by kernel_rfl) (by kernel_rfl) (by kernel_rfl) (fun _ _ _ _ h => h) (by rfl) hHeld ?_ ?_ ?_; rotate_left
        · (intro w9 hSw; (try dsimp only at hSw); go_simp; try with_reducible rfl)
        try simp only [Act.put, List.setIfInBounds_toArray, List.set_cons_zero, List.set_cons_succ]
        refine rgStep 12 (by kernel_rfl) rfl (by rfl) (fun K hK => ?_)
        go_simp
        refine (HLMk.out _ bW.drew).mono ?_; rintro e w2 ⟨rfl, bel⟩; have hW2 := (((Below.refl _ wr).alloc (Nat.le_refl _) (.cells #[.string r.d.name, .int .i64 4, .int .i64 r.d.size, .bool r.d.little, .slice A1 r.d.bytes.length c1, .slice A2 r.d.names.length c2, .slice A3 r.d.tags.length c3, .slice (some ⟨bk, ok, none⟩) r.d.kids.length c4] 52)).drew).trans (bel.mono (by simp)); have hW0 := ((HB.out.alloc (by omega) (.cells #[.string r.d.name, .int .i64 4, .int .i64 r.d.size, .bool r.d.little, .slice A1 r.d.bytes.length c1, .slice A2 r.d.names.length c2, .slice A3 r.d.tags.length c3, .slice (some ⟨bk, ok, none⟩) r.d.kids.length c4] 52)).drew).trans (bel.mono (by simp; omega)); have fD := cell_later bel fD; have f7 := cell_later bel f7; have fc0 := cell_later bel fc0; have fo0 := cell_later bel fo0
        (try go_wp2_with fail)
        refine hK.out _ _ ?_ (fun hHeld => ?_)
        · (try dsimp only); exact ⟨fD, f7, fc0, fo0⟩
        clear hK K
        try simp only [Act.put, List.setIfInBounds_toArray, List.set_cons_zero, List.set_cons_succ]
        refine rgStep 13 (by kernel_rfl) rfl (by rfl) (fun K hK => ?_)
        go_simp
        refine (specMin_any _ _ _).mono ?_; rintro e w3 ⟨rfl, rfl⟩; rw [HMM.out]
        (try go_wp2_with fail)
        refine hK.out _ _ ?_ (fun hHeld => ?_)
        · (try dsimp only); exact ⟨fD, f7, fc0, fo0⟩
        clear hK K
        try simp only [Act.put, List.setIfInBounds_toArray, List.set_cons_zero, List.set_cons_succ]
        refine rgTake 14 (some 50) rfl rfl (by kernel_rfl) (by kernel_rfl) (by kernel_rfl) (fun _ _ _ _ h => h) (by rfl) hHeld ?_ ?_ ?_; rotate_left
        · (intro w9 hSw; (try dsimp only at hSw); go_simp; try with_reducible rfl)
        try simp only [Act.put, List.setIfInBounds_toArray, List.set_cons_zero, List.set_cons_succ]
        refine rgTake 15 (some 6) rfl rfl (by kernel_rfl) (by kernel_rfl) (by kernel_rfl) (fun _ _ _ _ h => h) (by rfl) hHeld ?_ ?_ ?_; rotate_left
        · (intro w9 hSw; (try dsimp only at hSw); go_simp; try with_reducible rfl)
        try simp only [Act.put, List.setIfInBounds_toArray, List.set_cons_zero, List.set_cons_succ]
        refine wpAnyH_done (by kernel_rfl) ?_ _
        have hW2s := hW2.size
        have hW0s := hW0.size
        have HM2 := Lib.hid (show min 400 (z0 + mm) = mv by rw [HMV.out]; rw [HM.out])
        go_wp2_with (first | (go_at_call 54; refine (specMin_any _ _ _).mono ?_; rintro e w1 ⟨rfl, rfl⟩; rw [HM2.out]) | (at_builtin; refine wpList_app _ rfl (.tmp 134) (.tmp 137) 50 rfl (w.heap.size + 1) 3 i0 (.int .i64 0) 1 8 Try.underlying50 hi hz0 hz1 hz2 rfl (by decide) _ k _ rfl (own_below HOWN.out (by repeat (first | exact Below.refl _ _ | assumption | refine Below.alloc ?_ (by first | omega | (simp <;> omega)) _ | refine Below.setCell ?_ (by first | omega | (simp <;> omega)) _ | refine Below.drew ?_ | refine below_drewN ?_ _)) (Nat.le_refl _)) _ 1 _ [.int .i64 mv] rfl (slI_one (by simp)) (by simp [Value.oneCell']) (by omega) (by unfold maxLen; omega) (by simp; omega) ?_; intro v1 w1 own1 hg1 _))
        have hb1 := below_app hg1 (own_below HOWN.out (by repeat (first | exact Below.refl _ _ | assumption | refine Below.alloc ?_ (by first | omega | (simp <;> omega)) _ | refine Below.setCell ?_ (by first | omega | (simp <;> omega)) _ | refine Below.drew ?_ | refine below_drewN ?_ _)) (Nat.le_refl _)) (Nat.le_refl _) (by simp; omega) (hW0.alloc (by omega) _)
        rw [HNX.out] at own1
        have H := Lib.hid (And.intro own1 hb1)
        clear own1 hb1 hg1
        go_roundw
        case rel => exact ⟨k + 1, by omega, by go_num, H.out.1, H.out.2⟩
        case measure => simp [intOf]; omega
      by_cases q5 : r.d.kind = 5
      · have hk1 : r.d.kids.length = 2 := (hf.c5 q5).1
        have hlim := lim_nonneg hf (by omega)
        have hkp : 0 < r.d.kids.length := by omega
        obtain ⟨bk, ok, ck, ek, -, -, hbk, hkc⟩ := hkid.all hkp
        simp only [Value.slice.injEq] at ek
        obtain ⟨rfl, -, rfl⟩ := ek
        have hx00 := hkx _ (List.getElem_mem hkp)
        obtain ⟨bo, oo, co, rfl, hco1, hco2, hbo, hoc⟩ := hso.alln hmlen (by omega)
        unfold maxLen at hco2
        have hp0 : 0 < r.d.kids.length := by omega
        have hx0 := hkx _ (List.getElem_mem hp0)
        have hc0 := hkc 0 hp0
        have hkd0 : kid r.d 0 = r.d.kids[0] := kid_at r.d 0 hp0
        generalize hyg0 : r.d.kids[0] = y0 at *
        have HYG0 := Lib.hid hyg0
        clear hyg0
        obtain ⟨n0, rfl⟩ := Int.eq_ofNat_of_zero_le hx0.1
        have hn0 : n0 < mo.length := by omega
        have ho0 := hoc n0 hn0
        have ha0 : at0 mo ((n0 : Nat) : Int) = mo[n0] := at0_at mo n0 (by omega) hn0
        have hbd0 := at0_bd hob (by omega) ((n0 : Nat) : Int)
        rw [ha0] at hbd0
        generalize mo[n0] = z0 at *
        have fc0 := cell_later (Below.allocW wr (.cells #[.string r.d.name, .int .i64 5, .int .i64 r.d.size, .bool r.d.little, .slice A1 r.d.bytes.length c1, .slice A2 r.d.names.length c2, .slice A3 r.d.tags.length c3, .slice (some ⟨bk, ok, none⟩) r.d.kids.length c4] 52) (Nat.le_refl _)) hc0
        have fo0 := cell_later (Below.allocW wr (.cells #[.string r.d.name, .int .i64 5, .int .i64 r.d.size, .bool r.d.little, .slice A1 r.d.bytes.length c1, .slice A2 r.d.names.length c2, .slice A3 r.d.tags.length c3, .slice (some ⟨bk, ok, none⟩) r.d.kids.length c4] 52) (Nat.le_refl _)) ho0
        have hnk0 : n0 < k := by omega
        have hkz0 : (0 : Int) < r.d.kids.length := by omega
        rw [Nat.add_zero] at fc0
        have hp1 : 1 < r.d.kids.length := by omega
        have hx1 := hkx _ (List.getElem_mem hp1)
        have hc1 := hkc 1 hp1
        have hkd1 : kid r.d 1 = r.d.kids[1] := kid_at r.d 1 hp1
        generalize hyg1 : r.d.kids[1] = y1 at *
        have HYG1 := Lib.hid hyg1
        clear hyg1
        obtain ⟨n1, rfl⟩ := Int.eq_ofNat_of_zero_le hx1.1
        have hn1 : n1 < mo.length := by omega
        have ho1 := hoc n1 hn1
        have ha1 : at0 mo ((n1 : Nat) : Int) = mo[n1] := at0_at mo n1 (by omega) hn1
        have hbd1 := at0_bd hob (by omega) ((n1 : Nat) : Int)
        rw [ha1] at hbd1
        generalize mo[n1] = z1 at *
        have fc1 := cell_later (Below.allocW wr (.cells #[.string r.d.name, .int .i64 5, .int .i64 r.d.size, .bool r.d.little, .slice A1 r.d.bytes.length c1, .slice A2 r.d.names.length c2, .slice A3 r.d.tags.length c3, .slice (some ⟨bk, ok, none⟩) r.d.kids.length c4] 52) (Nat.le_refl _)) hc1
        have fo1 := cell_later (Below.allocW wr (.cells #[.string r.d.name, .int .i64 5, .int .i64 r.d.size, .bool r.d.little, .slice A1 r.d.bytes.length c1, .slice A2 r.d.names.length c2, .slice A3 r.d.tags.length c3, .slice (some ⟨bk, ok, none⟩) r.d.kids.length c4] 52) (Nat.le_refl _)) ho1
        have hnk1 : n1 < k := by omega
        have hkz1 : (1 : Int) < r.d.kids.length := by omega
        have HM := Lib.hid (show mxOfS D mo r.d = z0 + min 40 (limitOf D ((n0 : Nat) : Int)) * z1 by unfold mxOfS; rw [if_neg q1, if_neg q2, if_neg q3, if_neg q4, if_pos q5]; rw [hkd0, ha0, hkd1, ha1])
        rw [q5] at x1
        clear q5
        rw [hkd0] at hlim
        have hb0n := HLB.out ((n0 : Nat) : Int)
        have hLM : ∀ W, Below w.heap.size w W → Calls Try.prog 57 #[.agg #[.slice (some ⟨b, off, none⟩) l.length c], .int .i64 ((n0 : Nat) : Int)] W fun e w' => e = .returned (.int .i64 (limitOf D ((n0 : Nat) : Int))) ∧ Below W.heap.size W w' := fun W hb => HLM.out W _ hb ⟨by omega, by omega⟩
        generalize limitOf D ((n0 : Nat) : Int) = lim at *
        have HLMk := Lib.hid hLM
        clear hLM
        obtain ⟨mm, hmm⟩ : ∃ m, m = min 40 lim := ⟨_, rfl⟩
        have hmmb : 0 ≤ mm ∧ mm ≤ 40 := by omega
        have hmul := mul40_bd hmmb.1 hmmb.2 hbd1.1 hbd1.2 (by omega)
        rw [← hmm] at HM
        have HMM := Lib.hid hmm.symm
        clear hmm
        have HML := Lib.hid hmlen
        clear hmlen hkc hoc hkx hf hob hkid hso hk1 hc0 ho0 ha0 hkd0 hn0 hx0 HYG0 hc1 ho1 ha1 hkd1 hn1 hx1 HYG1
        have bW : Below w.heap.size w (wr.alloc (.cells #[.string r.d.name, .int .i64 5, .int .i64 r.d.size, .bool r.d.little, .slice A1 r.d.bytes.length c1, .slice A2 r.d.names.length c2, .slice A3 r.d.tags.length c3, .slice (some ⟨bk, ok, none⟩) r.d.kids.length c4] 52)) := (hbE0.out.trans (HB.out.mono (by omega))).alloc (by omega) _
        have fD := cell_later (Below.allocW wr (.cells #[.string r.d.name, .int .i64 5, .int .i64 r.d.size, .bool r.d.little, .slice A1 r.d.bytes.length c1, .slice A2 r.d.names.length c2, .slice A3 r.d.tags.length c3, .slice (some ⟨bk, ok, none⟩) r.d.kids.length c4] 52) (Nat.le_refl _)) hcD
        have f7 : (wr.alloc (.cells #[.string r.d.name, .int .i64 5, .int .i64 r.d.size, .bool r.d.little, .slice A1 r.d.bytes.length c1, .slice A2 r.d.names.length c2, .slice A3 r.d.tags.length c3, .slice (some ⟨bk, ok, none⟩) r.d.kids.length c4] 52)).cell? ⟨wr.heap.size, 7, none⟩ = some (.slice (some ⟨bk, ok, none⟩) r.d.kids.length c4) := by simp [go_sem]
        go_wp2_with fail
        refine wp_region_held_drew (S := (fun w9 => w9.cell? ⟨w.heap.size, 0, none⟩ = some (.slice (some ⟨b, off, none⟩) l.length c) ∧ w9.cell? ⟨wr.heap.size, 7, none⟩ = some (.slice (some ⟨bk, ok, none⟩) r.d.kids.length c4) ∧ w9.cell? ⟨bk, ok, none⟩ = some (.int .i64 ((n0 : Nat) : Int)) ∧ w9.cell? ⟨bo, oo + n0, none⟩ = some (.int .i64 z0) ∧ w9.cell? ⟨bk, ok + 1, none⟩ = some (.int .i64 ((n1 : Nat) : Int)) ∧ w9.cell? ⟨bo, oo + n1, none⟩ = some (.int .i64 z1))) (by kernel_rfl) ?_ (fun hHeld => ?_)
        · (try dsimp only); exact ⟨fD, f7, fc0, fo0, fc1, fo1⟩
        refine rgTake 0 (some 53) rfl rfl (by kernel_rfl) (by kernel_rfl) (by kernel_rfl) (fun _ _ _ _ h => h) (by rfl) hHeld ?_ ?_ ?_; rotate_left
        · (intro w9 hSw; (try dsimp only at hSw); go_simp; try with_reducible rfl)
        try simp only [Act.put, List.setIfInBounds_toArray, List.set_cons_zero, List.set_cons_succ]
        refine rgTake 1 (some 54) rfl rfl (by kernel_rfl) (by kernel_rfl) (by kernel_rfl) (fun _ _ _ _ h => h) (by rfl) hHeld ?_ ?_ ?_; rotate_left
        · (intro w9 hSw; (try dsimp only at hSw); go_simp; try with_reducible rfl)
        try simp only [Act.put, List.setIfInBounds_toArray, List.set_cons_zero, List.set_cons_succ]
        refine rgTake 2 (some 55) rfl rfl (by kernel_rfl) (by kernel_rfl) (by kernel_rfl) (fun _ _ _ _ h => h) (by rfl) hHeld ?_ ?_ ?_; rotate_left
        · (intro w9 hSw; (try dsimp only at hSw); go_simp; try with_reducible rfl)
        try simp only [Act.put, List.setIfInBounds_toArray, List.set_cons_zero, List.set_cons_succ]
        refine rgTake 3 (some 56) rfl rfl (by kernel_rfl) (by kernel_rfl) (by kernel_rfl) (fun _ _ _ _ h => h) (by rfl) hHeld ?_ ?_ ?_; rotate_left
        · (intro w9 hSw; (try dsimp only at hSw); go_simp; try with_reducible rfl)
        try simp only [Act.put, List.setIfInBounds_toArray, List.set_cons_zero, List.set_cons_succ]
        refine rgTake 4 (some 57) rfl rfl (by kernel_rfl) (by kernel_rfl) (by kernel_rfl) (fun _ _ _ _ h => h) (by rfl) hHeld ?_ ?_ ?_; rotate_left
        · (intro w9 hSw; (try dsimp only at hSw); go_simp; try with_reducible rfl)
        try simp only [Act.put, List.setIfInBounds_toArray, List.set_cons_zero, List.set_cons_succ]
        refine rgTake 5 (some 58) rfl rfl (by kernel_rfl) (by kernel_rfl) (by kernel_rfl) (fun _ _ _ _ h => h) (by rfl) hHeld ?_ ?_ ?_; rotate_left
        · (intro w9 hSw; (try dsimp only at hSw); go_simp; try with_reducible rfl)
        try simp only [Act.put, List.setIfInBounds_toArray, List.set_cons_zero, List.set_cons_succ]
        refine rgTake 6 (some 59) rfl rfl (by kernel_rfl) (by kernel_rfl) (by kernel_rfl) (fun _ _ _ _ h => h) (by rfl) hHeld ?_ ?_ ?_; rotate_left
        · (intro w9 hSw; (try dsimp only at hSw); go_simp; try with_reducible rfl)
        try simp only [Act.put, List.setIfInBounds_toArray, List.set_cons_zero, List.set_cons_succ]
        refine rgTake 7 (some 60) rfl rfl (by kernel_rfl) (by kernel_rfl) (by kernel_rfl) (fun _ _ _ _ h => h) (by rfl) hHeld ?_ ?_ ?_; rotate_left
        · (intro w9 hSw; (try dsimp only at hSw); go_simp; try with_reducible rfl)
        try simp only [Act.put, List.setIfInBounds_toArray, List.set_cons_zero, List.set_cons_succ]
        refine rgTake 8 (some 61) rfl rfl (by kernel_rfl) (by kernel_rfl) (by kernel_rfl) (fun _ _ _ _ h => h) (by rfl) hHeld ?_ ?_ ?_; rotate_left
        · (intro w9 hSw; (try dsimp only at hSw); go_simp; try with_reducible rfl)
        try simp only [Act.put, List.setIfInBounds_toArray, List.set_cons_zero, List.set_cons_succ]
        refine rgTake 9 (some 62) rfl rfl (by kernel_rfl) (by kernel_rfl) (by kernel_rfl) (fun _ _ _ _ h => h) (by rfl) hHeld ?_ ?_ ?_; rotate_left
        · (intro w9 hSw; (try dsimp only at hSw); go_simp; try with_reducible rfl)
        try simp only [Act.put, List.setIfInBounds_toArray, List.set_cons_zero, List.set_cons_succ]
        refine rgTake 10 (some 63) rfl rfl (by kernel_rfl) (by kernel_rfl) (by kernel_rfl) (fun _ _ _ _ h => h) (by rfl) hHeld ?_ ?_ ?_; rotate_left
        · (intro w9 hSw; (try dsimp only at hSw); go_simp; try with_reducible rfl)
        try simp only [Act.put, List.setIfInBounds_toArray, List.set_cons_zero, List.set_cons_succ]
        refine rgTake 11 (some 64) rfl rfl (by kernel_rfl) (by kernel_rfl) (by kernel_rfl) (fun _ _ _ _ h => h) (by rfl) hHeld ?_ ?_ ?_; rotate_left
        · (intro w9 hSw; (try dsimp only at hSw); go_simp; try with_reducible rfl)
        try simp only [Act.put, List.setIfInBounds_toArray, List.set_cons_zero, List.set_cons_succ]
        refine rgTake 14 (some 67) rfl rfl (by kernel_rfl) (by kernel_rfl) (by kernel_rfl) (fun _ _ _ _ h => h) (by rfl) hHeld ?_ ?_ ?_; rotate_left
        · (intro w9 hSw; (try dsimp only at hSw); go_simp; try with_reducible rfl)
        try simp only [Act.put, List.setIfInBounds_toArray, List.set_cons_zero, List.set_cons_succ]
        refine rgTake 15 (some 68) rfl rfl (by kernel_rfl) (by kernel_rfl) (by kernel_rfl) (fun _ _ _ _ h => h) (by rfl) hHeld ?_ ?_ ?_; rotate_left
        · (intro w9 hSw; (try dsimp only at hSw); go_simp; try with_reducible rfl)
        try simp only [Act.put, List.setIfInBounds_toArray, List.set_cons_zero, List.set_cons_succ]
        refine rgTake 16 (some 69) rfl rfl (by kernel_rfl) (by kernel_rfl) (by kernel_rfl) (fun _ _ _ _ h => h) (by rfl) hHeld ?_ ?_ ?_; rotate_left
        · (intro w9 hSw; (try dsimp only at hSw); go_simp; try with_reducible rfl)
        try simp only [Act.put, List.setIfInBounds_toArray, List.set_cons_zero, List.set_cons_succ]
        refine rgTake 17 (some 70) rfl rfl (by kernel_rfl) (by kernel_rfl) (by kernel_rfl) (fun _ _ _ _ h => h) (by rfl) hHeld ?_ ?_ ?_; rotate_left
        · (intro w9 hSw; (try dsimp only at hSw); go_simp; try with_reducible rfl)
        try simp only [Act.put, List.setIfInBounds_toArray, List.set_cons_zero, List.set_cons_succ]
        refine rgTake 18 (some 71) rfl rfl (by kernel_rfl) (by kernel_rfl) (by kernel_rfl) (fun _ _ _ _ h => h) (by rfl) hHeld ?_ ?_ ?_; rotate_left
        · (intro w9 hSw; (try dsimp only at hSw); go_simp; try with_reducible rfl)
        try simp only [Act.put, List.setIfInBounds_toArray, List.set_cons_zero, List.set_cons_succ]
        refine rgTake 19 (some 72) rfl rfl (by kernel_rfl) (by kernel_rfl) (by kernel_rfl) (fun _ _ _ _ h => h) (by rfl) hHeld ?_ ?_ ?_; rotate_left
        · (intro w9 hSw; (try dsimp only at hSw); go_simp; try with_reducible rfl)
        try simp only [Act.put, List.setIfInBounds_toArray, List.set_cons_zero, List.set_cons_succ]
        refine rgTake 20 (some 73) rfl rfl (by kernel_rfl) (by kernel_rfl) (by kernel_rfl) (fun _ _ _ _ h => h) (by rfl) hHeld ?_ ?_ ?_; rotate_left
        · (intro w9 hSw; (try dsimp only at hSw); go_simp; try with_reducible rfl)
        try simp only [Act.put, List.setIfInBounds_toArray, List.set_cons_zero, List.set_cons_succ]
        refine rgStep 12 (by kernel_rfl) rfl (by rfl) (fun K hK => ?_)
        go_simp
        refine (HLMk.out _ bW.drew).mono ?_; rintro e w2 ⟨rfl, bel⟩; have hW2 := (((Below.refl _ wr).alloc (Nat.le_refl _) (.cells #[.string r.d.name, .int .i64 5, .int .i64 r.d.size, .bool r.d.little, .slice A1 r.d.bytes.length c1, .slice A2 r.d.names.length c2, .slice A3 r.d.tags.length c3, .slice (some ⟨bk, ok, none⟩) r.d.kids.length c4] 52)).drew).trans (bel.mono (by simp)); have hW0 := ((HB.out.alloc (by omega) (.cells #[.string r.d.name, .int .i64 5, .int .i64 r.d.size, .bool r.d.little, .slice A1 r.d.bytes.length c1, .slice A2 r.d.names.length c2, .slice A3 r.d.tags.length c3, .slice (some ⟨bk, ok, none⟩) r.d.kids.length c4] 52)).drew).trans (bel.mono (by simp; omega)); have fD := cell_later bel fD; have f7 := cell_later bel f7; have fc0 := cell_later bel fc0; have fo0 := cell_later bel fo0; have fc1 := cell_later bel fc1; have fo1 := cell_later bel fo1
        (try go_wp2_with fail)
        refine hK.out _ _ ?_ (fun hHeld => ?_)
        · (try dsimp only); exact ⟨fD, f7, fc0, fo0, fc1, fo1⟩
        clear hK K
        try simp only [Act.put, List.setIfInBounds_toArray, List.set_cons_zero, List.set_cons_succ]
        refine rgStep 13 (by kernel_rfl) rfl (by rfl) (fun K hK => ?_)
        go_simp
        refine (specMin_any _ _ _).mono ?_; rintro e w3 ⟨rfl, rfl⟩; rw [HMM.out]
        (try go_wp2_with fail)
        refine hK.out _ _ ?_ (fun hHeld => ?_)
        · (try dsimp only); exact ⟨fD, f7, fc0, fo0, fc1, fo1⟩
        clear hK K
        try simp only [Act.put, List.setIfInBounds_toArray, List.set_cons_zero, List.set_cons_succ]
        refine rgTake 21 (some 74) rfl rfl (by kernel_rfl) (by kernel_rfl) (by kernel_rfl) (fun _ _ _ _ h => h) (by rfl) hHeld ?_ ?_ ?_; rotate_left
        · (intro w9 hSw; (try dsimp only at hSw); go_simp; try with_reducible rfl)
        try simp only [Act.put, List.setIfInBounds_toArray, List.set_cons_zero, List.set_cons_succ]
        refine rgTake 22 (some 75) rfl rfl (by kernel_rfl) (by kernel_rfl) (by kernel_rfl) (fun _ _ _ _ h => h) (by rfl) hHeld ?_ ?_ ?_; rotate_left
        · (intro w9 hSw; (try dsimp only at hSw); go_simp; try with_reducible rfl)
        try simp only [Act.put, List.setIfInBounds_toArray, List.set_cons_zero, List.set_cons_succ]
        refine rgTake 23 (some 6) rfl rfl (by kernel_rfl) (by kernel_rfl) (by kernel_rfl) (fun _ _ _ _ h => h) (by rfl) hHeld ?_ ?_ ?_; rotate_left
        · (intro w9 hSw; (try dsimp only at hSw); go_simp; try with_reducible rfl)
        try simp only [Act.put, List.setIfInBounds_toArray, List.set_cons_zero, List.set_cons_succ]
        refine wpAnyH_done (by kernel_rfl) ?_ _
        have hW2s := hW2.size
        have hW0s := hW0.size
        have HM2 := Lib.hid (show min 400 (z0 + mm * z1) = mv by rw [HMV.out]; rw [HM.out])
        go_wp2_with (first | (go_at_call 54; refine (specMin_any _ _ _).mono ?_; rintro e w1 ⟨rfl, rfl⟩; rw [HM2.out]) | (at_builtin; refine wpList_app _ rfl (.tmp 134) (.tmp 137) 50 rfl (w.heap.size + 1) 3 i0 (.int .i64 0) 1 8 Try.underlying50 hi hz0 hz1 hz2 rfl (by decide) _ k _ rfl (own_below HOWN.out (by repeat (first | exact Below.refl _ _ | assumption | refine Below.alloc ?_ (by first | omega | (simp <;> omega)) _ | refine Below.setCell ?_ (by first | omega | (simp <;> omega)) _ | refine Below.drew ?_ | refine below_drewN ?_ _)) (Nat.le_refl _)) _ 1 _ [.int .i64 mv] rfl (slI_one (by simp)) (by simp [Value.oneCell']) (by omega) (by unfold maxLen; omega) (by simp; omega) ?_; intro v1 w1 own1 hg1 _))
        have hb1 := below_app hg1 (own_below HOWN.out (by repeat (first | exact Below.refl _ _ | assumption | refine Below.alloc ?_ (by first | omega | (simp <;> omega)) _ | refine Below.setCell ?_ (by first | omega | (simp <;> omega)) _ | refine Below.drew ?_ | refine below_drewN ?_ _)) (Nat.le_refl _)) (Nat.le_refl _) (by simp; omega) (hW0.alloc (by omega) _)
        rw [HNX.out] at own1
        have H := Lib.hid (And.intro own1 hb1)
        clear own1 hb1 hg1
        go_roundw
        case rel => exact ⟨k + 1, by omega, by go_num, H.out.1, H.out.2⟩
        case measure => simp [intOf]; omega
      by_cases q6 : r.d.kind = 6
      · have hk1 : r.d.kids.length ≤ 8 ∧ 1 ≤ r.d.kids.length := by have := hf.c6 q6; omega
        have hkp : 0 < r.d.kids.length := by omega
        obtain ⟨bk, ok, ck, ek, -, -, hbk, hkc⟩ := hkid.all hkp
        simp only [Value.slice.injEq] at ek
        obtain ⟨rfl, -, rfl⟩ := ek
        have hx00 := hkx _ (List.getElem_mem hkp)
        obtain ⟨bo, oo, co, rfl, hco1, hco2, hbo, hoc⟩ := hso.alln hmlen (by omega)
        unfold maxLen at hco2
        have HM := Lib.hid (show mxOfS D mo r.d = sumTo mo r.d.kids r.d.kids.length by unfold mxOfS; rw [if_neg q1, if_neg q2, if_neg q3, if_neg q4, if_neg q5, if_pos q6])
        have HKC := Lib.hid hkc
        have HOC := Lib.hid hoc
        have HKX := Lib.hid hkx
        have HOB := Lib.hid hob
        rw [q6] at x1
        clear q6
        have HML := Lib.hid hmlen
        clear hmlen hkc hoc hkx hf hob hkid hso
        go_wp2_with fail
        go_loop [6, 7] (fun q i => ∃ j : Nat, j ≤ r.d.kids.length ∧ i = .int .i64 j ∧ q = .int .i64 (sumTo mo r.d.kids j)) (fun _ i => r.d.kids.length - (intOf i).toNat)
        case atStart => exact ⟨0, Nat.zero_le _, rfl, rfl⟩
        case round =>
          obtain ⟨j, hj, rfl, rfl⟩ := hrel
          have hsb := sumTo_bd HOB.out (by omega) r.d.kids j
          by_cases hjl : j < r.d.kids.length
          · have hxj := HKX.out _ (List.getElem_mem hjl)
            have hcj := HKC.out (j) hjl
            have hnx : r.d.kids.getD (j) 0 = r.d.kids[j] := by simp [List.getD, hjl]
            generalize r.d.kids[j] = yj at *
            obtain ⟨nj, rfl⟩ := Int.eq_ofNat_of_zero_le hxj.1
            have hnj : nj < mo.length := by have := HML.out; omega
            have hoj := HOC.out nj hnj
            have haj : at0 mo ((nj : Nat) : Int) = mo[nj] := at0_at mo nj (by omega) hnj
            have hbj := at0_bd HOB.out (by omega) ((nj : Nat) : Int)
            rw [haj] at hbj
            have HN := Lib.hid (show sumTo mo r.d.kids (j + 1) = sumTo mo r.d.kids j + mo[nj] by rw [sumTo, hnx, haj])
            generalize mo[nj] = zj at *
            have fcj := cell_later (Below.allocW wr (.cells #[.string r.d.name, .int .i64 6, .int .i64 r.d.size, .bool r.d.little, .slice A1 r.d.bytes.length c1, .slice A2 r.d.names.length c2, .slice A3 r.d.tags.length c3, .slice (some ⟨bk, ok, none⟩) r.d.kids.length c4] 52) (Nat.le_refl _)) hcj
            have foj := cell_later (Below.allocW wr (.cells #[.string r.d.name, .int .i64 6, .int .i64 r.d.size, .bool r.d.little, .slice A1 r.d.bytes.length c1, .slice A2 r.d.names.length c2, .slice A3 r.d.tags.length c3, .slice (some ⟨bk, ok, none⟩) r.d.kids.length c4] 52) (Nat.le_refl _)) hoj
            have hnk : nj < k := by omega
            clear hcj hoj hnx haj hnj hxj
            go_wp2
            go_round
            case rel => exact ⟨j + 1, by omega, by go_num, by rw [HN.out]⟩
            case measure => simp [intOf]; omega
          · have hjk : j = r.d.kids.length := by omega
            subst hjk
            generalize sumTo mo r.d.kids r.d.kids.length = sj at *
            clear HKC HOC HKX HOB
            try clear HZ1
            have HM2 := Lib.hid (show min 400 (sj) = mv by rw [HMV.out]; rw [HM.out])
            go_wp2_with (first | (go_at_call 54; refine (specMin_any _ _ _).mono ?_; rintro e w1 ⟨rfl, rfl⟩; rw [HM2.out]) | (at_builtin; refine wpList_app _ rfl (.tmp 134) (.tmp 137) 50 rfl (w.heap.size + 1) 3 i0 (.int .i64 0) 1 8 Try.underlying50 hi hz0 hz1 hz2 rfl (by decide) _ k _ rfl (own_below HOWN.out (by repeat (first | exact Below.refl _ _ | assumption | refine Below.alloc ?_ (by first | omega | (simp <;> omega)) _ | refine Below.setCell ?_ (by first | omega | (simp <;> omega)) _ | refine Below.drew ?_ | refine below_drewN ?_ _)) (Nat.le_refl _)) _ 1 _ [.int .i64 mv] rfl (slI_one (by simp)) (by simp [Value.oneCell']) (by omega) (by unfold maxLen; omega) (by simp; omega) ?_; intro v1 w1 own1 hg1 _))
            have hb1 := below_app hg1 (own_below HOWN.out (by repeat (first | exact Below.refl _ _ | assumption | refine Below.alloc ?_ (by first | omega | (simp <;> omega)) _ | refine Below.setCell ?_ (by first | omega | (simp <;> omega)) _ | refine Below.drew ?_ | refine below_drewN ?_ _)) (Nat.le_refl _)) (Nat.le_refl _) (by simp; omega) ((HB.out.alloc (by omega) _).alloc (by simp; omega) _)
            rw [HNX.out] at own1
            have H := Lib.hid (And.intro own1 hb1)
            clear own1 hb1 hg1
            go_roundw
            case rel => exact ⟨k + 1, by omega, by go_num, H.out.1, H.out.2⟩
            case measure => simp [intOf]; omega
      by_cases q7 : r.d.kind = 7
      · have hk1 : r.d.kids.length ≤ 9 ∧ 2 ≤ r.d.kids.length := by have := hf.c7 q7; omega
        have hkp : 0 < r.d.kids.length := by omega
        obtain ⟨bk, ok, ck, ek, -, -, hbk, hkc⟩ := hkid.all hkp
        simp only [Value.slice.injEq] at ek
        obtain ⟨rfl, -, rfl⟩ := ek
        have hx00 := hkx _ (List.getElem_mem hkp)
        obtain ⟨bo, oo, co, rfl, hco1, hco2, hbo, hoc⟩ := hso.alln hmlen (by omega)
        unfold maxLen at hco2
        have hp0 : 0 < r.d.kids.length := by omega
        have hx0 := hkx _ (List.getElem_mem hp0)
        have hc0 := hkc 0 hp0
        have hkd0 : kid r.d 0 = r.d.kids[0] := kid_at r.d 0 hp0
        generalize hyg0 : r.d.kids[0] = y0 at *
        have HYG0 := Lib.hid hyg0
        clear hyg0
        obtain ⟨n0, rfl⟩ := Int.eq_ofNat_of_zero_le hx0.1
        have hn0 : n0 < mo.length := by omega
        have ho0 := hoc n0 hn0
        have ha0 : at0 mo ((n0 : Nat) : Int) = mo[n0] := at0_at mo n0 (by omega) hn0
        have hbd0 := at0_bd hob (by omega) ((n0 : Nat) : Int)
        rw [ha0] at hbd0
        generalize mo[n0] = z0 at *
        have fc0 := cell_later (Below.allocW wr (.cells #[.string r.d.name, .int .i64 7, .int .i64 r.d.size, .bool r.d.little, .slice A1 r.d.bytes.length c1, .slice A2 r.d.names.length c2, .slice A3 r.d.tags.length c3, .slice (some ⟨bk, ok, none⟩) r.d.kids.length c4] 52) (Nat.le_refl _)) hc0
        have fo0 := cell_later (Below.allocW wr (.cells #[.string r.d.name, .int .i64 7, .int .i64 r.d.size, .bool r.d.little, .slice A1 r.d.bytes.length c1, .slice A2 r.d.names.length c2, .slice A3 r.d.tags.length c3, .slice (some ⟨bk, ok, none⟩) r.d.kids.length c4] 52) (Nat.le_refl _)) ho0
        have hnk0 : n0 < k := by omega
        have hkz0 : (0 : Int) < r.d.kids.length := by omega
        rw [Nat.add_zero] at fc0
        have HM := Lib.hid (show mxOfS D mo r.d = maxTo mo r.d.kids (r.d.kids.length - 2) + z0 by unfold mxOfS; rw [if_neg q1, if_neg q2, if_neg q3, if_neg q4, if_neg q5, if_neg q6, if_pos q7, hkd0, ha0])
        have HKC := Lib.hid hkc
        have HOC := Lib.hid hoc
        have HKX := Lib.hid hkx
        have HOB := Lib.hid hob
        rw [q7] at x1
        clear q7
        have HML := Lib.hid hmlen
        clear hmlen hkc hoc hkx hf hob hkid hso hc0 ho0 ha0 hkd0 hn0 hx0 HYG0
        go_wp2_with fail
        go_loop [6, 8] (fun q i => ∃ j : Nat, j + 1 ≤ r.d.kids.length ∧ i = .int .i64 ((j + 1 : Nat) : Int) ∧ q = .int .i64 (mxTo mo r.d.kids j)) (fun _ i => r.d.kids.length - (intOf i).toNat)
        case atStart => exact ⟨0, by omega, rfl, rfl⟩
        case round =>
          obtain ⟨j, hj, rfl, rfl⟩ := hrel
          have hsb := mxTo_bd HOB.out (by omega) r.d.kids j
          by_cases hjl : j + 1 < r.d.kids.length
          · have hxj := HKX.out _ (List.getElem_mem hjl)
            have hcj := HKC.out (j + 1) hjl
            have hnx : r.d.kids.getD (j + 1) 0 = r.d.kids[j + 1] := by simp [List.getD, hjl]
            generalize r.d.kids[j + 1] = yj at *
            obtain ⟨nj, rfl⟩ := Int.eq_ofNat_of_zero_le hxj.1
            have hnj : nj < mo.length := by have := HML.out; omega
            have hoj := HOC.out nj hnj
            have haj : at0 mo ((nj : Nat) : Int) = mo[nj] := at0_at mo nj (by omega) hnj
            have hbj := at0_bd HOB.out (by omega) ((nj : Nat) : Int)
            rw [haj] at hbj
            have HN := Lib.hid (show mxTo mo r.d.kids (j + 1) = max (mxTo mo r.d.kids j) mo[nj] by rw [mxTo, hnx, haj])
            generalize mo[nj] = zj at *
            have fcj := cell_later (Below.allocW wr (.cells #[.string r.d.name, .int .i64 7, .int .i64 r.d.size, .bool r.d.little, .slice A1 r.d.bytes.length c1, .slice A2 r.d.names.length c2, .slice A3 r.d.tags.length c3, .slice (some ⟨bk, ok, none⟩) r.d.kids.length c4] 52) (Nat.le_refl _)) hcj
            have foj := cell_later (Below.allocW wr (.cells #[.string r.d.name, .int .i64 7, .int .i64 r.d.size, .bool r.d.little, .slice A1 r.d.bytes.length c1, .slice A2 r.d.names.length c2, .slice A3 r.d.tags.length c3, .slice (some ⟨bk, ok, none⟩) r.d.kids.length c4] 52) (Nat.le_refl _)) hoj
            have hnk : nj < k := by omega
            clear hcj hoj hnx haj hnj hxj
            go_wp2_with (go_at_call 58; refine (specMax_any _ _ _).mono ?_; rintro e w1 ⟨rfl, rfl⟩)
            go_round
            case rel => exact ⟨j + 1, by omega, by go_num, by rw [HN.out]⟩
            case measure => simp [intOf]; omega
          · obtain ⟨j2, rfl⟩ : ∃ j2, j = j2 + 1 := ⟨j - 1, by omega⟩
            have hjk : r.d.kids.length - 2 = j2 := by omega
            rw [hjk, ← mxTo_max HOB.out (by omega)] at HM
            have hjc : ((j2 + 1 + 1 : Nat) : Int) = r.d.kids.length := by omega
            generalize mxTo mo r.d.kids (j2 + 1) = sj at *
            clear HKC HOC HKX HOB
            try clear HZ1
            have HM2 := Lib.hid (show min 400 (sj + z0) = mv by rw [HMV.out]; rw [HM.out])
            go_wp2_with (first | (go_at_call 54; refine (specMin_any _ _ _).mono ?_; rintro e w1 ⟨rfl, rfl⟩; rw [HM2.out]) | (at_builtin; refine wpList_app _ rfl (.tmp 134) (.tmp 137) 50 rfl (w.heap.size + 1) 3 i0 (.int .i64 0) 1 8 Try.underlying50 hi hz0 hz1 hz2 rfl (by decide) _ k _ rfl (own_below HOWN.out (by repeat (first | exact Below.refl _ _ | assumption | refine Below.alloc ?_ (by first | omega | (simp <;> omega)) _ | refine Below.setCell ?_ (by first | omega | (simp <;> omega)) _ | refine Below.drew ?_ | refine below_drewN ?_ _)) (Nat.le_refl _)) _ 1 _ [.int .i64 mv] rfl (slI_one (by simp)) (by simp [Value.oneCell']) (by omega) (by unfold maxLen; omega) (by simp; omega) ?_; intro v1 w1 own1 hg1 _))
            have hb1 := below_app hg1 (own_below HOWN.out (by repeat (first | exact Below.refl _ _ | assumption | refine Below.alloc ?_ (by first | omega | (simp <;> omega)) _ | refine Below.setCell ?_ (by first | omega | (simp <;> omega)) _ | refine Below.drew ?_ | refine below_drewN ?_ _)) (Nat.le_refl _)) (Nat.le_refl _) (by simp; omega) ((HB.out.alloc (by omega) _).alloc (by simp; omega) _)
            rw [HNX.out] at own1
            have H := Lib.hid (And.intro own1 hb1)
            clear own1 hb1 hg1
            go_roundw
            case rel => exact ⟨k + 1, by omega, by go_num, H.out.1, H.out.2⟩
            case measure => simp [intOf]; omega
      by_cases q8 : r.d.kind = 8
      · have hk1 : r.d.kids.length = 1 := hf.c8 (by omega)
        have hkp : 0 < r.d.kids.length := by omega
        obtain ⟨bk, ok, ck, ek, -, -, hbk, hkc⟩ := hkid.all hkp
        simp only [Value.slice.injEq] at ek
        obtain ⟨rfl, -, rfl⟩ := ek
        have hx00 := hkx _ (List.getElem_mem hkp)
        obtain ⟨bo, oo, co, rfl, hco1, hco2, hbo, hoc⟩ := hso.alln hmlen (by omega)
        unfold maxLen at hco2
        have hp0 : 0 < r.d.kids.length := by omega
        have hx0 := hkx _ (List.getElem_mem hp0)
        have hc0 := hkc 0 hp0
        have hkd0 : kid r.d 0 = r.d.kids[0] := kid_at r.d 0 hp0
        generalize hyg0 : r.d.kids[0] = y0 at *
        have HYG0 := Lib.hid hyg0
        clear hyg0
        obtain ⟨n0, rfl⟩ := Int.eq_ofNat_of_zero_le hx0.1
        have hn0 : n0 < mo.length := by omega
        have ho0 := hoc n0 hn0
        have ha0 : at0 mo ((n0 : Nat) : Int) = mo[n0] := at0_at mo n0 (by omega) hn0
        have hbd0 := at0_bd hob (by omega) ((n0 : Nat) : Int)
        rw [ha0] at hbd0
        generalize mo[n0] = z0 at *
        have fc0 := cell_later (Below.allocW wr (.cells #[.string r.d.name, .int .i64 8, .int .i64 r.d.size, .bool r.d.little, .slice A1 r.d.bytes.length c1, .slice A2 r.d.names.length c2, .slice A3 r.d.tags.length c3, .slice (some ⟨bk, ok, none⟩) r.d.kids.length c4] 52) (Nat.le_refl _)) hc0
        have fo0 := cell_later (Below.allocW wr (.cells #[.string r.d.name, .int .i64 8, .int .i64 r.d.size, .bool r.d.little, .slice A1 r.d.bytes.length c1, .slice A2 r.d.names.length c2, .slice A3 r.d.tags.length c3, .slice (some ⟨bk, ok, none⟩) r.d.kids.length c4] 52) (Nat.le_refl _)) ho0
        have hnk0 : n0 < k := by omega
        have hkz0 : (0 : Int) < r.d.kids.length := by omega
        rw [Nat.add_zero] at fc0
        have HM := Lib.hid (show mxOfS D mo r.d = 1 + z0 by unfold mxOfS; rw [if_neg q1, if_neg q2, if_neg q3, if_neg q4, if_neg q5, if_neg q6, if_neg q7, if_pos q8]; rw [hkd0, ha0]; omega)
        rw [q8] at x1
        clear q8
        have HML := Lib.hid hmlen
        clear hmlen hkc hoc hkx hf hob hkid hso hk1 hc0 ho0 ha0 hkd0 hn0 hx0 HYG0
        have HM2 := Lib.hid (show min 400 (1 + z0) = mv by rw [HMV.out]; rw [HM.out])
        go_wp2_with (first | (go_at_call 54; refine (specMin_any _ _ _).mono ?_; rintro e w1 ⟨rfl, rfl⟩; rw [HM2.out]) | (at_builtin; refine wpList_app _ rfl (.tmp 134) (.tmp 137) 50 rfl (w.heap.size + 1) 3 i0 (.int .i64 0) 1 8 Try.underlying50 hi hz0 hz1 hz2 rfl (by decide) _ k _ rfl (own_below HOWN.out (by repeat (first | exact Below.refl _ _ | assumption | refine Below.alloc ?_ (by first | omega | (simp <;> omega)) _ | refine Below.setCell ?_ (by first | omega | (simp <;> omega)) _ | refine Below.drew ?_ | refine below_drewN ?_ _)) (Nat.le_refl _)) _ 1 _ [.int .i64 mv] rfl (slI_one (by simp)) (by simp [Value.oneCell']) (by omega) (by unfold maxLen; omega) (by simp; omega) ?_; intro v1 w1 own1 hg1 _))
        have hb1 := below_app hg1 (own_below HOWN.out (by repeat (first | exact Below.refl _ _ | assumption | refine Below.alloc ?_ (by first | omega | (simp <;> omega)) _ | refine Below.setCell ?_ (by first | omega | (simp <;> omega)) _ | refine Below.drew ?_ | refine below_drewN ?_ _)) (Nat.le_refl _)) (Nat.le_refl _) (by simp; omega) ((HB.out.alloc (by omega) _).alloc (by simp; omega) _)
        rw [HNX.out] at own1
        have H := Lib.hid (And.intro own1 hb1)
        clear own1 hb1 hg1
        go_roundw
        case rel => exact ⟨k + 1, by omega, by go_num, H.out.1, H.out.2⟩
        case measure => simp [intOf]; omega
      by_cases q9 : r.d.kind = 9
      · have hk1 : r.d.kids.length = 1 := hf.c8 (by omega)
        have hkp : 0 < r.d.kids.length := by omega
        obtain ⟨bk, ok, ck, ek, -, -, hbk, hkc⟩ := hkid.all hkp
        simp only [Value.slice.injEq] at ek
        obtain ⟨rfl, -, rfl⟩ := ek
        have hx00 := hkx _ (List.getElem_mem hkp)
        obtain ⟨bo, oo, co, rfl, hco1, hco2, hbo, hoc⟩ := hso.alln hmlen (by omega)
        unfold maxLen at hco2
        have hp0 : 0 < r.d.kids.length := by omega
        have hx0 := hkx _ (List.getElem_mem hp0)
        have hc0 := hkc 0 hp0
        have hkd0 : kid r.d 0 = r.d.kids[0] := kid_at r.d 0 hp0
        generalize hyg0 : r.d.kids[0] = y0 at *
        have HYG0 := Lib.hid hyg0
        clear hyg0
        obtain ⟨n0, rfl⟩ := Int.eq_ofNat_of_zero_le hx0.1
        have hn0 : n0 < mo.length := by omega
        have ho0 := hoc n0 hn0
        have ha0 : at0 mo ((n0 : Nat) : Int) = mo[n0] := at0_at mo n0 (by omega) hn0
        have hbd0 := at0_bd hob (by omega) ((n0 : Nat) : Int)
        rw [ha0] at hbd0
        generalize mo[n0] = z0 at *
        have fc0 := cell_later (Below.allocW wr (.cells #[.string r.d.name, .int .i64 9, .int .i64 r.d.size, .bool r.d.little, .slice A1 r.d.bytes.length c1, .slice A2 r.d.names.length c2, .slice A3 r.d.tags.length c3, .slice (some ⟨bk, ok, none⟩) r.d.kids.length c4] 52) (Nat.le_refl _)) hc0
        have fo0 := cell_later (Below.allocW wr (.cells #[.string r.d.name, .int .i64 9, .int .i64 r.d.size, .bool r.d.little, .slice A1 r.d.bytes.length c1, .slice A2 r.d.names.length c2, .slice A3 r.d.tags.length c3, .slice (some ⟨bk, ok, none⟩) r.d.kids.length c4] 52) (Nat.le_refl _)) ho0
        have hnk0 : n0 < k := by omega
        have hkz0 : (0 : Int) < r.d.kids.length := by omega
        rw [Nat.add_zero] at fc0
        have HM := Lib.hid (show mxOfS D mo r.d = 1 + z0 by unfold mxOfS; rw [if_neg q1, if_neg q2, if_neg q3, if_neg q4, if_neg q5, if_neg q6, if_neg q7, if_neg q8, if_pos q9]; rw [hkd0, ha0]; omega)
        rw [q9] at x1
        clear q9
        have HML := Lib.hid hmlen
        clear hmlen hkc hoc hkx hf hob hkid hso hk1 hc0 ho0 ha0 hkd0 hn0 hx0 HYG0
        have HM2 := Lib.hid (show min 400 (1 + z0) = mv by rw [HMV.out]; rw [HM.out])
        go_wp2_with (first | (go_at_call 54; refine (specMin_any _ _ _).mono ?_; rintro e w1 ⟨rfl, rfl⟩; rw [HM2.out]) | (at_builtin; refine wpList_app _ rfl (.tmp 134) (.tmp 137) 50 rfl (w.heap.size + 1) 3 i0 (.int .i64 0) 1 8 Try.underlying50 hi hz0 hz1 hz2 rfl (by decide) _ k _ rfl (own_below HOWN.out (by repeat (first | exact Below.refl _ _ | assumption | refine Below.alloc ?_ (by first | omega | (simp <;> omega)) _ | refine Below.setCell ?_ (by first | omega | (simp <;> omega)) _ | refine Below.drew ?_ | refine below_drewN ?_ _)) (Nat.le_refl _)) _ 1 _ [.int .i64 mv] rfl (slI_one (by simp)) (by simp [Value.oneCell']) (by omega) (by unfold maxLen; omega) (by simp; omega) ?_; intro v1 w1 own1 hg1 _))
        have hb1 := below_app hg1 (own_below HOWN.out (by repeat (first | exact Below.refl _ _ | assumption | refine Below.alloc ?_ (by first | omega | (simp <;> omega)) _ | refine Below.setCell ?_ (by first | omega | (simp <;> omega)) _ | refine Below.drew ?_ | refine below_drewN ?_ _)) (Nat.le_refl _)) (Nat.le_refl _) (by simp; omega) ((HB.out.alloc (by omega) _).alloc (by simp; omega) _)
        rw [HNX.out] at own1
        have H := Lib.hid (And.intro own1 hb1)
        clear own1 hb1 hg1
        go_roundw
        case rel => exact ⟨k + 1, by omega, by go_num, H.out.1, H.out.2⟩
        case measure => simp [intOf]; omega
      by_cases q10 : r.d.kind = 10
      · have HM := Lib.hid (show mxOfS D mo r.d = 400 by unfold mxOfS; simp [q10])
        rw [q10] at x1
        clear q10
        clear hkid hso hkx hf
        have HM2 := Lib.hid (show min 400 (400) = mv by rw [HMV.out]; rw [HM.out])
        go_wp2_with (first | (go_at_call 54; refine (specMin_any _ _ _).mono ?_; rintro e w1 ⟨rfl, rfl⟩; rw [HM2.out]) | (at_builtin; refine wpList_app _ rfl (.tmp 134) (.tmp 137) 50 rfl (w.heap.size + 1) 3 i0 (.int .i64 0) 1 8 Try.underlying50 hi hz0 hz1 hz2 rfl (by decide) _ k _ rfl (own_below HOWN.out (by repeat (first | exact Below.refl _ _ | assumption | refine Below.alloc ?_ (by first | omega | (simp <;> omega)) _ | refine Below.setCell ?_ (by first | omega | (simp <;> omega)) _ | refine Below.drew ?_ | refine below_drewN ?_ _)) (Nat.le_refl _)) _ 1 _ [.int .i64 mv] rfl (slI_one (by simp)) (by simp [Value.oneCell']) (by omega) (by unfold maxLen; omega) (by simp; omega) ?_; intro v1 w1 own1 hg1 _))
        have hb1 := below_app hg1 (own_below HOWN.out (by repeat (first | exact Below.refl _ _ | assumption | refine Below.alloc ?_ (by first | omega | (simp <;> omega)) _ | refine Below.setCell ?_ (by first | omega | (simp <;> omega)) _ | refine Below.drew ?_ | refine below_drewN ?_ _)) (Nat.le_refl _)) (Nat.le_refl _) (by simp; omega) ((HB.out.alloc (by omega) _).alloc (by simp; omega) _)
        rw [HNX.out] at own1
        have H := Lib.hid (And.intro own1 hb1)
        clear own1 hb1 hg1
        go_roundw
        case rel => exact ⟨k + 1, by omega, by go_num, H.out.1, H.out.2⟩
        case measure => simp [intOf]; omega
      omega
    · have hkl : k = l.length := by omega
      rw [hkl] at hown
      have HO := Lib.hid (And.intro (own_base hown (Nat.le_succ _)) hb)
      clear hkl hown hb hb0
      go_wp2
      go_ret
      exact ⟨_, rfl, HO.out.1, HO.out.2⟩
end Go.Proofs.Ytnbemdcdokhknaa
