/- The walks of l4Kind and validKind at every kind, of IsValidRule on both sides. Conditions: the description reads as its rules, which are small. -/
import Derived.Test.YtkfmdkogifmfmaaDoorDescK2
import Derived.WalkSpells
import Derived.WalkLawsBesides
import Derived.BigQuiet
import Derived.Deep.QuietTactic
import Derived.Deep.RegionHeld3
namespace Go.Proofs.YtkfmdkogifmfmaaDoor
set_option linter.unusedSimpArgs false
set_option linter.unusedVariables false
open Go.RowKit
theorem l4Kind_any (v : Value) (l : List RM) (r : RM) (B : Nat) (w : World) (h : SlD w B v l) (hB : B ≤ w.heap.size) (ok : ∀ r ∈ l, r.d.ok) (hr : r.rd w B) (hk : r.d.ok) (hsm : r.d.small 1048576) :
    Calls Tryd.prog 60 #[.agg #[v], rmV r] w fun e w' => e = .returned (.bool (kindR (l.map RM.d) r.d && littleOk r.d)) ∧ Below w.heap.size w w' := by
  by_cases q1 : r.d.kind = 1
  · exact l4Kind_1 v l r B w h hB ok hr hk hsm q1
  by_cases q2 : r.d.kind = 2
  · exact l4Kind_2 v l r B w h hB ok hr hk hsm q2
  by_cases q3 : r.d.kind = 3
  · exact l4Kind_3 v l r B w h hB ok hr hk hsm q3
  by_cases q4 : r.d.kind = 4
  · exact l4Kind_4 v l r B w h hB ok hr hk hsm q4
  by_cases q5 : r.d.kind = 5
  · exact l4Kind_5 v l r B w h hB ok hr hk hsm q5
  by_cases q6 : r.d.kind = 6
  · exact l4Kind_6 v l r B w h hB ok hr hk hsm q6
  by_cases q7 : r.d.kind = 7
  · exact l4Kind_7 v l r B w h hB ok hr hk hsm q7
  by_cases q8 : r.d.kind = 8
  · exact l4Kind_8 v l r B w h hB ok hr hk hsm q8
  by_cases q9 : r.d.kind = 9
  · exact l4Kind_9 v l r B w h hB ok hr hk hsm q9
  by_cases q10 : r.d.kind = 10
  · exact l4Kind_10 v l r B w h hB ok hr hk hsm q10
  exact l4Kind_0 v l r B w h hB ok hr hk hsm (by omega)
theorem validKind_any (v : Value) (l : List RM) (r : RM) (B : Nat) (w : World) (h : SlD w B v l) (hB : B ≤ w.heap.size) (ok : ∀ r ∈ l, r.d.ok) (hr : r.rd w B) (hk : r.d.ok) (hsm : r.d.small 1048576) :
    Calls Tryd.prog 62 #[.agg #[v], rmV r] w fun e w' => e = .returned (.bool (kindR (l.map RM.d) r.d)) ∧ Below w.heap.size w w' := by
  by_cases q1 : r.d.kind = 1
  · exact validKind_1 v l r B w h hB ok hr hk hsm q1
  by_cases q2 : r.d.kind = 2
  · exact validKind_2 v l r B w h hB ok hr hk hsm q2
  by_cases q3 : r.d.kind = 3
  · exact validKind_3 v l r B w h hB ok hr hk hsm q3
  by_cases q4 : r.d.kind = 4
  · exact validKind_4 v l r B w h hB ok hr hk hsm q4
  by_cases q5 : r.d.kind = 5
  · exact validKind_5 v l r B w h hB ok hr hk hsm q5
  by_cases q6 : r.d.kind = 6
  · exact validKind_6 v l r B w h hB ok hr hk hsm q6
  by_cases q7 : r.d.kind = 7
  · exact validKind_7 v l r B w h hB ok hr hk hsm q7
  by_cases q8 : r.d.kind = 8
  · exact validKind_8 v l r B w h hB ok hr hk hsm q8
  by_cases q9 : r.d.kind = 9
  · exact validKind_9 v l r B w h hB ok hr hk hsm q9
  by_cases q10 : r.d.kind = 10
  · exact validKind_10 v l r B w h hB ok hr hk hsm q10
  exact validKind_0 v l r B w h hB ok hr hk hsm (by omega)
set_option maxHeartbeats 4000000 in
set_option maxRecDepth 100000 in
theorem specValidRule_any (v : Value) (l : List RM) (i : Int) (B : Nat) (w : World) (h : SlD w B v l) (hB : B ≤ w.heap.size) (hi : InI64 i) (ok : ∀ r ∈ l, r.d.ok) (sm : ∀ r ∈ l, r.d.small 1048576) :
    Calls Tryd.prog 56 #[.agg #[v], .int .i64 i] w fun e w' => e = .returned (.bool (validR (l.map RM.d) i)) ∧ Below w.heap.size w w' := by
  have hKD : ∀ W r, r ∈ l → Below w.heap.size w W → Calls Tryd.prog 60 #[.agg #[v], rmV r] W fun e w' => e = .returned (.bool (kindR (l.map RM.d) r.d && littleOk r.d)) ∧ Below W.heap.size W w' := fun W r hr hb =>
    l4Kind_any v l r B W (h.below (hb.mono hB)) (by have := hb.size; omega) ok ((h.2 r hr).below (hb.mono hB)) (ok r hr) (sm r hr)
  obtain ⟨A, cd, rfl, hc, hm, hcell⟩ := h.open_
  have hm0 := hm
  unfold maxLen at hm
  by_cases hr : 0 ≤ i ∧ i < l.length
  rotate_left
  · have HV := Lib.hid (show validR (l.map RM.d) i = false from validR_out _ _ (by simp; omega))
    have hbD := Below.allocW w (.cells #[.slice A l.length cd] 32) (Nat.le_refl _)
    clear hcell hKD h
    go_enter Tryd.func56, Tryd.ntmps56
    go_wp2_with (go_at_call 22; refine (l1In_any _ _ _ _).mono ?_; rintro e w1 ⟨rfl, rfl⟩; rw [inB_false (by omega)])
    go_ret
    exact ⟨ret_bool HV.out.symm, hbD⟩
  · obtain ⟨k, hk, rfl, hat⟩ := ruleAt_some (D := l.map RM.d) hr.1 (by simpa using hr.2)
    have hkl : k < l.length := by simpa using hk
    clear hat
    have HV := Lib.hid (show validR (l.map RM.d) (k : Int) = ruleOk (l.map RM.d) k l[k].d by rw [validR_at _ k hk, List.getElem_map])
    have hKK := fun W => hKD W l[k] (List.getElem_mem hkl)
    have hrd := h.2 l[k] (List.getElem_mem hkl)
    have hok := ok l[k] (List.getElem_mem hkl)
    have hNM : ∀ j (hj : j < l.length), ∃ b off, A = some ⟨b, off, none⟩ ∧ b < B ∧ w.cell? ⟨b, off + j * 8, none⟩ = some (.string l[j].d.name) := fun j hj => by
      obtain ⟨b, off, e, hb, c, _⟩ := hcell j hj
      exact ⟨b, off, e, hb, c⟩
    have hOT : ∀ s j (hj : j < l.length), otherAt (l.map RM.d) s j = !(l[j].d.name.toList == s.toList) := fun s j hj => by rw [otherAt_eq _ _ j (by simpa using hj), List.getElem_map]
    have HNM := Lib.hid hNM
    have HOT := Lib.hid hOT
    obtain ⟨bd, od, rfl, hbB, g0, g1, g2, g3, g4, g5, g6, g7⟩ := hcell k hkl
    clear hcell hNM hOT hk hKD ok sm h
    generalize hD : l.map RM.d = D at *
    clear hD
    generalize hre : l[k] = r at *
    obtain ⟨⟨name, kind, size, little, bytes, names, tags, kids⟩, vb, vn, vt, vk⟩ := r
    clear hre
    have h1 : SlB w B vb bytes := hrd.b
    have h2 : SlS w B vn names := hrd.n
    have h3 : SlI w B vt tags := hrd.t
    have h4 : SlI w B vk kids := hrd.k
    have hkn : name.size ≤ maxLen := hok.name
    have hkk : ∀ a ∈ kids, InI64 a := hok.kids
    obtain ⟨Ab, cb, rfl, hb1, hb2, x1⟩ := h1.open_
    obtain ⟨An, cn, rfl, hn1, hn2, x2⟩ := h2.one
    obtain ⟨At, ct, rfl, ht1, ht2, x3⟩ := h3.one
    obtain ⟨Ak, ck, rfl, hk1, hk2, x4⟩ := h4.one
    unfold rmV at hKK
    simp only at hKK g0 g1 g2 g3 g4 g5 g6 g7 HV
    clear hrd hok h1 h2 h3 h4 x1 x2 x3
    unfold maxLen at hb2 hn2 ht2 hk2
    have HKK := Lib.hid hKK
    clear hKK
    have hO1 : allTo (otherAt D name) k = false → ruleOk D k ⟨name, kind, size, little, bytes, names, tags, kids⟩ = false := fun h => by unfold ruleOk; simp only; rw [h]; rfl
    have hO2 : allTo (otherAt D name) k = true → ruleOk D k ⟨name, kind, size, little, bytes, names, tags, kids⟩ = (allTo (kidAt kids (k : Int)) kids.length && (isName name && (kindR D ⟨name, kind, size, little, bytes, names, tags, kids⟩ && littleOk ⟨name, kind, size, little, bytes, names, tags, kids⟩))) := fun h => by unfold ruleOk; simp only; rw [h]; rfl
    generalize (kindR D ⟨name, kind, size, little, bytes, names, tags, kids⟩ && littleOk ⟨name, kind, size, little, bytes, names, tags, kids⟩) = kd at *
    generalize ruleOk D k ⟨name, kind, size, little, bytes, names, tags, kids⟩ = rk at *
    have b0 : Below w.heap.size w ((w.alloc (.cells #[.slice (some ⟨bd, od, none⟩) l.length cd] 32)).alloc (.cells #[.string name, .int .i64 kind, .int .i64 size, .bool little, .slice Ab bytes.length cb, .slice An names.length cn, .slice At tags.length ct, .slice Ak kids.length ck] 58)) := (((Below.refl _ _).alloc (Nat.le_refl _) _).alloc (by simp) _)
    have cD : ((w.alloc (.cells #[.slice (some ⟨bd, od, none⟩) l.length cd] 32)).alloc (.cells #[.string name, .int .i64 kind, .int .i64 size, .bool little, .slice Ab bytes.length cb, .slice An names.length cn, .slice At tags.length ct, .slice Ak kids.length ck] 58)).cell? ⟨w.heap.size, 0, none⟩ = some (.slice (some ⟨bd, od, none⟩) l.length cd) := by simp [go_sem]
    have c0 : ((w.alloc (.cells #[.slice (some ⟨bd, od, none⟩) l.length cd] 32)).alloc (.cells #[.string name, .int .i64 kind, .int .i64 size, .bool little, .slice Ab bytes.length cb, .slice An names.length cn, .slice At tags.length ct, .slice Ak kids.length ck] 58)).cell? ⟨w.heap.size + 1, 0, none⟩ = some (.string name) := by simp [go_sem]
    have c1 : ((w.alloc (.cells #[.slice (some ⟨bd, od, none⟩) l.length cd] 32)).alloc (.cells #[.string name, .int .i64 kind, .int .i64 size, .bool little, .slice Ab bytes.length cb, .slice An names.length cn, .slice At tags.length ct, .slice Ak kids.length ck] 58)).cell? ⟨w.heap.size + 1, 1, none⟩ = some (.int .i64 kind) := by simp [go_sem]
    have c2 : ((w.alloc (.cells #[.slice (some ⟨bd, od, none⟩) l.length cd] 32)).alloc (.cells #[.string name, .int .i64 kind, .int .i64 size, .bool little, .slice Ab bytes.length cb, .slice An names.length cn, .slice At tags.length ct, .slice Ak kids.length ck] 58)).cell? ⟨w.heap.size + 1, 2, none⟩ = some (.int .i64 size) := by simp [go_sem]
    have c3 : ((w.alloc (.cells #[.slice (some ⟨bd, od, none⟩) l.length cd] 32)).alloc (.cells #[.string name, .int .i64 kind, .int .i64 size, .bool little, .slice Ab bytes.length cb, .slice An names.length cn, .slice At tags.length ct, .slice Ak kids.length ck] 58)).cell? ⟨w.heap.size + 1, 3, none⟩ = some (.bool little) := by simp [go_sem]
    have c4 : ((w.alloc (.cells #[.slice (some ⟨bd, od, none⟩) l.length cd] 32)).alloc (.cells #[.string name, .int .i64 kind, .int .i64 size, .bool little, .slice Ab bytes.length cb, .slice An names.length cn, .slice At tags.length ct, .slice Ak kids.length ck] 58)).cell? ⟨w.heap.size + 1, 4, none⟩ = some (.slice Ab bytes.length cb) := by simp [go_sem]
    have c5 : ((w.alloc (.cells #[.slice (some ⟨bd, od, none⟩) l.length cd] 32)).alloc (.cells #[.string name, .int .i64 kind, .int .i64 size, .bool little, .slice Ab bytes.length cb, .slice An names.length cn, .slice At tags.length ct, .slice Ak kids.length ck] 58)).cell? ⟨w.heap.size + 1, 5, none⟩ = some (.slice An names.length cn) := by simp [go_sem]
    have c6 : ((w.alloc (.cells #[.slice (some ⟨bd, od, none⟩) l.length cd] 32)).alloc (.cells #[.string name, .int .i64 kind, .int .i64 size, .bool little, .slice Ab bytes.length cb, .slice An names.length cn, .slice At tags.length ct, .slice Ak kids.length ck] 58)).cell? ⟨w.heap.size + 1, 6, none⟩ = some (.slice At tags.length ct) := by simp [go_sem]
    have c7 : ((w.alloc (.cells #[.slice (some ⟨bd, od, none⟩) l.length cd] 32)).alloc (.cells #[.string name, .int .i64 kind, .int .i64 size, .bool little, .slice Ab bytes.length cb, .slice An names.length cn, .slice At tags.length ct, .slice Ak kids.length ck] 58)).cell? ⟨w.heap.size + 1, 7, none⟩ = some (.slice Ak kids.length ck) := by simp [go_sem]
    have hz : ((w.alloc (.cells #[.slice (some ⟨bd, od, none⟩) l.length cd] 32)).alloc (.cells #[.string name, .int .i64 kind, .int .i64 size, .bool little, .slice Ab bytes.length cb, .slice An names.length cn, .slice At tags.length ct, .slice Ak kids.length ck] 58)).heap.size = w.heap.size + 2 := by simp
    generalize hW0 : ((w.alloc (.cells #[.slice (some ⟨bd, od, none⟩) l.length cd] 32)).alloc (.cells #[.string name, .int .i64 kind, .int .i64 size, .bool little, .slice Ab bytes.length cb, .slice An names.length cn, .slice At tags.length ct, .slice Ak kids.length ck] 58)) = W0 at *
    have HW0 := Lib.hid hW0
    clear hW0
    have HO1 := Lib.hid hO1
    have HO2 := Lib.hid hO2
    clear hO1 hO2
    have hin : inB (k : Int) 0 ((l.length : Int) - 1) = true := inB_true (by omega) (by omega)
    have HIN := Lib.hid hin
    clear hin
    have hbD := Below.allocW w (.cells #[.slice (some ⟨bd, od, none⟩) l.length cd] 32) (Nat.le_refl _)
    have d0 := cell_later hbD g0
    have d1 := cell_later hbD g1
    have d2 := cell_later hbD g2
    have d3 := cell_later hbD g3
    have d4 := cell_later hbD g4
    have d5 := cell_later hbD g5
    have d6 := cell_later hbD g6
    have d7 := cell_later hbD g7
    clear g1 g2 g3 g4 g5 g6 g7 g0 hbD
    go_enter Tryd.func56, Tryd.ntmps56
    go_wp2_with (go_at_call 22; refine (l1In_any _ _ _ _).mono ?_; rintro e w1 ⟨rfl, rfl⟩; rw [HIN.out])
    rw [HW0.out]
    clear d0 d1 d2 d3 d4 d5 d6 d7
    go_loopw [6] (fun i wr => ∃ j n : Nat, j ≤ k ∧ i = .int .i64 j ∧ wr = W0.drewN n ∧ allTo (otherAt D name) j = true) (fun i _ => k - (intOf i).toNat)
    case atStart => exact ⟨0, 0, Nat.zero_le _, rfl, rfl, rfl⟩
    case round =>
      obtain ⟨j, n, hj, rfl, hw, hall⟩ := hrel
      have HW := Lib.hid hw
      by_cases hlt : j < k
      · obtain ⟨b, off, e, hbB2, hcn⟩ := HNM.out j (by omega)
        simp only [Option.some.injEq, Addr.mk.injEq, and_true] at e
        obtain ⟨rfl, rfl⟩ := e
        have hcr : wr.cell? ⟨bd, od + j * 8, none⟩ = some (.string l[j].d.name) := by rw [hw]; exact cell_at b0 (show bd < w.heap.size by omega) hcn
        have d0 : wr.cell? ⟨w.heap.size + 1, 0, none⟩ = some (.string name) := by rw [hw]; exact c0
        have dD : wr.cell? ⟨w.heap.size, 0, none⟩ = some (.slice (some ⟨bd, od, none⟩) l.length cd) := by rw [hw]; exact cD
        have hot := HOT.out name j (by omega)
        have hno := allTo_no (otherAt D name) j k hlt
        have hst := allTo_step (otherAt D name) j hall
        have hjl : j < l.length := by omega
        generalize l[j] = y at *
        clear hcn hall hw
        cases he : (y.d.name.toList == name.toList)
        · have HX := Lib.hid (hst (by rw [hot, he]; rfl))
          clear hst hno hot cD c0 c7
          go_wp2_with fail
          go_quiet (fail)
          go_wp2
          go_roundw
          case rel => exact ⟨j + 1, _, by omega, by go_num, by rw [HW.out]; exact World.drewN_drewN _ _ _, HX.out⟩
          case measure => simp [intOf]; omega
        · have HX := Lib.hid (HV.out.trans (HO1.out (hno (by rw [hot, he]; rfl))))
          clear hst hno hot cD c0 c7
          go_wp2_with fail
          go_quiet (fail)
          go_wp2
          go_ret
          exact ⟨ret_bool HX.out.symm, by rw [HW.out]; exact below_drewN (below_drewN b0 _) _⟩
      · have hjk : j = k := by omega
        have HY := Lib.hid (HV.out.trans (HO2.out (by rw [← hjk]; exact hall)))
        have bw : Below w.heap.size w wr := by rw [hw]; exact below_drewN b0 _
        have dD : wr.cell? ⟨w.heap.size, 0, none⟩ = some (.slice (some ⟨bd, od, none⟩) l.length cd) := by rw [hw]; exact cD
        have d0 : wr.cell? ⟨w.heap.size + 1, 0, none⟩ = some (.string name) := by rw [hw]; exact c0
        have d1 : wr.cell? ⟨w.heap.size + 1, 1, none⟩ = some (.int .i64 kind) := by rw [hw]; exact c1
        have d2 : wr.cell? ⟨w.heap.size + 1, 2, none⟩ = some (.int .i64 size) := by rw [hw]; exact c2
        have d3 : wr.cell? ⟨w.heap.size + 1, 3, none⟩ = some (.bool little) := by rw [hw]; exact c3
        have d4 : wr.cell? ⟨w.heap.size + 1, 4, none⟩ = some (.slice Ab bytes.length cb) := by rw [hw]; exact c4
        have d5 : wr.cell? ⟨w.heap.size + 1, 5, none⟩ = some (.slice An names.length cn) := by rw [hw]; exact c5
        have d6 : wr.cell? ⟨w.heap.size + 1, 6, none⟩ = some (.slice At tags.length ct) := by rw [hw]; exact c6
        have d7 : wr.cell? ⟨w.heap.size + 1, 7, none⟩ = some (.slice Ak kids.length ck) := by rw [hw]; exact c7
        clear hall hjk HO1 HO2 HV HOT HNM hw HW cD c0 c1 c2 c3 c4 c5 c6 c7
        go_wp2_with fail
        go_loop [7] (fun i => ∃ j : Nat, j ≤ kids.length ∧ i = .int .i64 j ∧ allTo (kidAt kids (k : Int)) j = true) (fun i => kids.length - (intOf i).toNat)
        case atStart => exact ⟨0, Nat.zero_le _, rfl, rfl⟩
        case round =>
          obtain ⟨j, hj, rfl, hall⟩ := hrel
          by_cases hlt : j < kids.length
          · obtain ⟨bk, ok, rfl, hbk, ck0⟩ := x4 j hlt
            have hck := cell_at bw (show bk < w.heap.size by omega) ck0
            have hka := kidAt_eq kids (k : Int) j hlt
            have hno := allTo_no (kidAt kids (k : Int)) j kids.length hlt
            have hst := allTo_step (kidAt kids (k : Int)) j hall
            generalize kids[j] = x at *
            cases he : inB x 0 ((k : Int) - 1)
            · have HX := Lib.hid (HY.out.trans (show _ = false by rw [hno (by rw [hka, he])]; rfl))
              have HE := Lib.hid he
              clear hst hno hka hall he x4 ck0
              go_wp2_with (go_at_call 22; refine (l1In_any _ _ _ _).mono ?_; rintro e w1 ⟨rfl, rfl⟩; rw [HE.out])
              go_ret
              exact ⟨ret_bool HX.out.symm, bw⟩
            · have HX := Lib.hid (hst (by rw [hka, he]))
              have HE := Lib.hid he
              clear hst hno hka hall he x4 ck0
              go_wp2_with (go_at_call 22; refine (l1In_any _ _ _ _).mono ?_; rintro e w1 ⟨rfl, rfl⟩; rw [HE.out])
              go_round
              case rel => exact ⟨j + 1, by omega, by go_num, HX.out⟩
              case measure => simp [intOf]; omega
          · have hjk : j = kids.length := by omega
            have HZ := Lib.hid (HY.out.trans (show _ = (isName name && kd) by rw [← hjk, hall]; rfl))
            clear hall hjk x4 HY
            cases hn : isName name
            · have HN := Lib.hid hn
              have HX := Lib.hid (HZ.out.trans (by rw [hn]; try rfl))
              clear hn HZ
              go_wp2_with fail
              refine (specIsName_any name _ hkn).mono ?_
              rintro e w1 ⟨rfl, rfl⟩
              rw [HN.out]
              go_wp2
              go_ret
              exact ⟨ret_bool HX.out.symm, bw⟩
            · have HN := Lib.hid hn
              have HX := Lib.hid (HZ.out.trans (by rw [hn]; try rfl))
              clear hn HZ
              go_wp2_with fail
              refine (specIsName_any name _ hkn).mono ?_
              rintro e w1 ⟨rfl, rfl⟩
              rw [HN.out]
              go_wp2_with fail
              refine (HKK.out _ bw).mono ?_
              rintro e w2 ⟨rfl, bel⟩
              have b2 := below_step bel bw
              clear bel
              go_wp2
              go_ret
              exact ⟨ret_bool HX.out.symm, b2⟩
theorem cutA_zero (b o m s : Nat) : cutA (some ⟨b, o, none⟩) m 0 s = some ⟨b, o, none⟩ := by
  unfold cutA
  split
  · rfl
  · simp [Addr.add]
theorem run_cutZ {P : Program} {t e : TypeId} {size : Nat} (ht : P.underlying t = some (.slice e)) (hs : ∀ w, (sizeOf e).run P w = .ok size w) (b o len cap : Nat) (h : Nat) (h2 : h ≤ cap) (w : World) :
    (Instr.slice t (.slice (some ⟨b, o, none⟩) len cap) none (some (.int .i64 h)) none).run P w = .ok (.slice (some ⟨b, o, none⟩) h cap) w := by
  rw [run_cutH ht hs _ _ _ _ h rfl h2, cutA_zero, Nat.sub_zero, Nat.sub_zero]
set_option maxHeartbeats 4000000 in
set_option maxRecDepth 100000 in
theorem implValidRule_any (v : Value) (l : List RM) (i : Int) (B : Nat) (w : World) (h : SlD w B v l) (hB : B ≤ w.heap.size) (hi : InI64 i) (ok : ∀ r ∈ l, r.d.ok) (sm : ∀ r ∈ l, r.d.small 1048576) :
    Calls Tryd.prog 57 #[.agg #[v], .int .i64 i] w fun e w' => e = .returned (.bool (validR (l.map RM.d) i)) ∧ Below w.heap.size w w' := by
  have hKD : ∀ W r, r ∈ l → Below w.heap.size w W → Calls Tryd.prog 62 #[.agg #[v], rmV r] W fun e w' => e = .returned (.bool (kindR (l.map RM.d) r.d)) ∧ Below W.heap.size W w' := fun W r hr hb =>
    validKind_any v l r B W (h.below (hb.mono hB)) (by have := hb.size; omega) ok ((h.2 r hr).below (hb.mono hB)) (ok r hr) (sm r hr)
  have hHR : ∀ W, Below w.heap.size w W → Calls Tryd.prog 25 #[.agg #[v], .int .i64 i] W fun e w' => e = .returned (.bool (inB i 0 ((l.length : Int) - 1))) ∧ Below W.heap.size W w' := fun W hb => hasRule_any v l i B W (h.below (hb.mono hB))
  obtain ⟨A, cd, rfl, hc, hm, hcell⟩ := h.open_
  have hm0 := hm
  unfold maxLen at hm
  by_cases hr : 0 ≤ i ∧ i < l.length
  rotate_left
  · have HV := Lib.hid (show validR (l.map RM.d) i = false from validR_out _ _ (by simp; omega))
    have hbD := Below.allocW w (.cells #[.slice A l.length cd] 32) (Nat.le_refl _)
    have HHR := Lib.hid hHR
    clear hcell hKD h hHR
    go_enter Tryd.func57, Tryd.ntmps57
    go_wp2_with fail
    refine (HHR.out _ hbD).mono ?_
    rintro e w1 ⟨rfl, bel⟩
    rw [inB_false (by omega)]
    have b1 := below_step bel hbD
    clear bel
    go_wp2
    go_ret
    exact ⟨ret_bool HV.out.symm, b1⟩
  · obtain ⟨k, hk, rfl, hat⟩ := ruleAt_some (D := l.map RM.d) hr.1 (by simpa using hr.2)
    have hkl : k < l.length := by simpa using hk
    clear hat
    have HV := Lib.hid (show validR (l.map RM.d) (k : Int) = ruleOk (l.map RM.d) k l[k].d by rw [validR_at _ k hk, List.getElem_map])
    have hKK := fun W => hKD W l[k] (List.getElem_mem hkl)
    have hrd := h.2 l[k] (List.getElem_mem hkl)
    have hok := ok l[k] (List.getElem_mem hkl)
    have hNM : ∀ j (hj : j < l.length), ∃ b off, A = some ⟨b, off, none⟩ ∧ b < B ∧ w.cell? ⟨b, off + j * 8, none⟩ = some (.string l[j].d.name) := fun j hj => by
      obtain ⟨b, off, e, hb, c, _⟩ := hcell j hj
      exact ⟨b, off, e, hb, c⟩
    have hOT : ∀ s j (hj : j < l.length), otherAt (l.map RM.d) s j = !(l[j].d.name.toList == s.toList) := fun s j hj => by rw [otherAt_eq _ _ j (by simpa using hj), List.getElem_map]
    have hALL : ∀ j (hj : j < l.length), ∃ b off A1 c1 A2 c2 A3 c3 A4 c4, A = some ⟨b, off, none⟩ ∧ b < B ∧ w.cell? ⟨b, off + j * 8, none⟩ = some (.string l[j].d.name) ∧ w.cell? ⟨b, off + j * 8 + 1, none⟩ = some (.int .i64 l[j].d.kind) ∧
      w.cell? ⟨b, off + j * 8 + 2, none⟩ = some (.int .i64 l[j].d.size) ∧ w.cell? ⟨b, off + j * 8 + 3, none⟩ = some (.bool l[j].d.little) ∧ w.cell? ⟨b, off + j * 8 + 4, none⟩ = some (.slice A1 l[j].d.bytes.length c1) ∧
      w.cell? ⟨b, off + j * 8 + 5, none⟩ = some (.slice A2 l[j].d.names.length c2) ∧ w.cell? ⟨b, off + j * 8 + 6, none⟩ = some (.slice A3 l[j].d.tags.length c3) ∧ w.cell? ⟨b, off + j * 8 + 7, none⟩ = some (.slice A4 l[j].d.kids.length c4) := fun j hj => by
      obtain ⟨b, off, e, hb, x0, x1, x2, x3, x4, x5, x6, x7⟩ := hcell j hj
      have hj2 := h.2 l[j] (List.getElem_mem hj)
      obtain ⟨A1, c1, y1, -⟩ := hj2.b.open_
      obtain ⟨A2, c2, y2, -⟩ := hj2.n.one
      obtain ⟨A3, c3, y3, -⟩ := hj2.t.one
      obtain ⟨A4, c4, y4, -⟩ := hj2.k.one
      rw [y1] at x4
      rw [y2] at x5
      rw [y3] at x6
      rw [y4] at x7
      exact ⟨b, off, A1, c1, A2, c2, A3, c3, A4, c4, e, hb, x0, x1, x2, x3, x4, x5, x6, x7⟩
    have HAL := Lib.hid hALL
    clear hALL
    have HNM := Lib.hid hNM
    have HOT := Lib.hid hOT
    obtain ⟨bd, od, rfl, hbB, g0, g1, g2, g3, g4, g5, g6, g7⟩ := hcell k hkl
    clear hcell hNM hOT hk hKD ok sm h
    generalize hD : l.map RM.d = D at *
    clear hD
    generalize hre : l[k] = r at *
    obtain ⟨⟨name, kind, size, little, bytes, names, tags, kids⟩, vb, vn, vt, vk⟩ := r
    clear hre
    have h1 : SlB w B vb bytes := hrd.b
    have h2 : SlS w B vn names := hrd.n
    have h3 : SlI w B vt tags := hrd.t
    have h4 : SlI w B vk kids := hrd.k
    have hkn : name.size ≤ maxLen := hok.name
    have hkk : ∀ a ∈ kids, InI64 a := hok.kids
    obtain ⟨Ab, cb, rfl, hb1, hb2, x1⟩ := h1.open_
    obtain ⟨An, cn, rfl, hn1, hn2, x2⟩ := h2.one
    obtain ⟨At, ct, rfl, ht1, ht2, x3⟩ := h3.one
    obtain ⟨Ak, ck, rfl, hk1, hk2, x4⟩ := h4.one
    unfold rmV at hKK
    simp only at hKK g0 g1 g2 g3 g4 g5 g6 g7 HV
    clear hrd hok h1 h2 h3 h4 x1 x2 x3
    unfold maxLen at hb2 hn2 ht2 hk2
    have HKK := Lib.hid hKK
    clear hKK
    have hO : ruleOk D k ⟨name, kind, size, little, bytes, names, tags, kids⟩ = (allTo (otherAt D name) k && (allTo (kidAt kids (k : Int)) kids.length && (isName name && (kindR D ⟨name, kind, size, little, bytes, names, tags, kids⟩ && littleOk ⟨name, kind, size, little, bytes, names, tags, kids⟩)))) := rfl
    have hlo : littleOk ⟨name, kind, size, little, bytes, names, tags, kids⟩ = (!little || kind == 1) := rfl
    generalize kindR D ⟨name, kind, size, little, bytes, names, tags, kids⟩ = kd at *
    generalize ruleOk D k ⟨name, kind, size, little, bytes, names, tags, kids⟩ = rk at *
    rw [hlo] at hO
    have HO := Lib.hid hO
    clear hO hlo
    have HV2 := Lib.hid (HV.out.trans HO.out)
    have hin : inB (k : Int) 0 ((l.length : Int) - 1) = true := inB_true (by omega) (by omega)
    have HIN := Lib.hid hin
    have HHR := Lib.hid hHR
    have hcut := run_cutZ (P := Tryd.prog) Tryd.underlying30 Tryd.sizeOf58 bd od l.length cd k (by omega)
    have HCUT := Lib.hid hcut
    have hbD := Below.allocW w (.cells #[.slice (some ⟨bd, od, none⟩) l.length cd] 32) (Nat.le_refl _)
    have cD : (w.alloc (.cells #[.slice (some ⟨bd, od, none⟩) l.length cd] 32)).cell? ⟨w.heap.size, 0, none⟩ = some (.slice (some ⟨bd, od, none⟩) l.length cd) := by simp [go_sem]
    clear hin HO HV hHR hcut
    go_enter Tryd.func57, Tryd.ntmps57
    go_wp2_with fail
    refine (HHR.out _ hbD).mono ?_
    rintro e w1 ⟨rfl, bel⟩
    rw [HIN.out]
    have b1 := below_step bel hbD
    have hz1 := b1.size
    have hz2 : w.heap.size + 1 ≤ w1.heap.size := by have := bel.size; simp at this; omega
    have cD := cell_later bel cD
    have d0 := cell_at b1 (show bd < w.heap.size by omega) g0
    have d1 := cell_at b1 (show bd < w.heap.size by omega) g1
    have d2 := cell_at b1 (show bd < w.heap.size by omega) g2
    have d3 := cell_at b1 (show bd < w.heap.size by omega) g3
    have d4 := cell_at b1 (show bd < w.heap.size by omega) g4
    have d5 := cell_at b1 (show bd < w.heap.size by omega) g5
    have d6 := cell_at b1 (show bd < w.heap.size by omega) g6
    have d7 := cell_at b1 (show bd < w.heap.size by omega) g7
    clear bel hbD g0 g1 g2 g3 g4 g5 g6 g7
    go_wp2_with fail
    have b2 : Below w.heap.size w (w1.alloc (.cells #[.string name, .int .i64 kind, .int .i64 size, .bool little, .slice Ab bytes.length cb, .slice An names.length cn, .slice At tags.length ct, .slice Ak kids.length ck] 58)) := b1.alloc hz1 _
    have cD := cell_later (Below.allocW w1 (.cells #[.string name, .int .i64 kind, .int .i64 size, .bool little, .slice Ab bytes.length cb, .slice An names.length cn, .slice At tags.length ct, .slice Ak kids.length ck] 58) (Nat.le_refl _)) cD
    have e0 : (w1.alloc (.cells #[.string name, .int .i64 kind, .int .i64 size, .bool little, .slice Ab bytes.length cb, .slice An names.length cn, .slice At tags.length ct, .slice Ak kids.length ck] 58)).cell? ⟨w1.heap.size, 0, none⟩ = some (.string name) := by simp [go_sem]
    have e1 : (w1.alloc (.cells #[.string name, .int .i64 kind, .int .i64 size, .bool little, .slice Ab bytes.length cb, .slice An names.length cn, .slice At tags.length ct, .slice Ak kids.length ck] 58)).cell? ⟨w1.heap.size, 1, none⟩ = some (.int .i64 kind) := by simp [go_sem]
    have e2 : (w1.alloc (.cells #[.string name, .int .i64 kind, .int .i64 size, .bool little, .slice Ab bytes.length cb, .slice An names.length cn, .slice At tags.length ct, .slice Ak kids.length ck] 58)).cell? ⟨w1.heap.size, 2, none⟩ = some (.int .i64 size) := by simp [go_sem]
    have e3 : (w1.alloc (.cells #[.string name, .int .i64 kind, .int .i64 size, .bool little, .slice Ab bytes.length cb, .slice An names.length cn, .slice At tags.length ct, .slice Ak kids.length ck] 58)).cell? ⟨w1.heap.size, 3, none⟩ = some (.bool little) := by simp [go_sem]
    have e4 : (w1.alloc (.cells #[.string name, .int .i64 kind, .int .i64 size, .bool little, .slice Ab bytes.length cb, .slice An names.length cn, .slice At tags.length ct, .slice Ak kids.length ck] 58)).cell? ⟨w1.heap.size, 4, none⟩ = some (.slice Ab bytes.length cb) := by simp [go_sem]
    have e5 : (w1.alloc (.cells #[.string name, .int .i64 kind, .int .i64 size, .bool little, .slice Ab bytes.length cb, .slice An names.length cn, .slice At tags.length ct, .slice Ak kids.length ck] 58)).cell? ⟨w1.heap.size, 5, none⟩ = some (.slice An names.length cn) := by simp [go_sem]
    have e6 : (w1.alloc (.cells #[.string name, .int .i64 kind, .int .i64 size, .bool little, .slice Ab bytes.length cb, .slice An names.length cn, .slice At tags.length ct, .slice Ak kids.length ck] 58)).cell? ⟨w1.heap.size, 6, none⟩ = some (.slice At tags.length ct) := by simp [go_sem]
    have e7 : (w1.alloc (.cells #[.string name, .int .i64 kind, .int .i64 size, .bool little, .slice Ab bytes.length cb, .slice An names.length cn, .slice At tags.length ct, .slice Ak kids.length ck] 58)).cell? ⟨w1.heap.size, 7, none⟩ = some (.slice Ak kids.length ck) := by simp [go_sem]
    have hz3 : (w1.alloc (.cells #[.string name, .int .i64 kind, .int .i64 size, .bool little, .slice Ab bytes.length cb, .slice An names.length cn, .slice At tags.length ct, .slice Ak kids.length ck] 58)).heap.size = w1.heap.size + 1 := by simp
    clear d0 d1 d2 d3 d4 d5 d6 d7
    generalize (w1.alloc (.cells #[.string name, .int .i64 kind, .int .i64 size, .bool little, .slice Ab bytes.length cb, .slice An names.length cn, .slice At tags.length ct, .slice Ak kids.length ck] 58)) = W2 at *
    refine (implIsName_any name _ hkn).mono ?_
    rintro e w3 ⟨rfl, bel⟩
    have b3 := below_step bel b2
    have hz4 := bel.size
    have cD := cell_later bel cD
    have e0 := cell_later bel e0
    have e1 := cell_later bel e1
    have e2 := cell_later bel e2
    have e3 := cell_later bel e3
    have e4 := cell_later bel e4
    have e5 := cell_later bel e5
    have e6 := cell_later bel e6
    have e7 := cell_later bel e7
    clear bel
    generalize hgb : w1.heap.size = gb at *
    clear hgb
    cases hn : isName name
    · have HX := Lib.hid (HV2.out.trans (show _ = false by rw [hn]; simp))
      clear hn HV2
      go_wp2
      go_ret
      exact ⟨ret_bool HX.out.symm, b3⟩
    have HV3 := Lib.hid (HV2.out.trans (show _ = (allTo (otherAt D name) k && (allTo (kidAt kids (k : Int)) kids.length && (kd && (!little || kind == 1)))) by rw [hn]; simp))
    clear hn HV2
    cases hl : (!little || kind == 1)
    · have HX := Lib.hid (HV3.out.trans (show _ = false by rw [hl]; simp))
      cases little
      · simp at hl
      have hkq : (kind != 1) = true := by simpa [bne] using hl
      clear hl HV3
      go_wp2
      go_ret
      exact ⟨ret_bool HX.out.symm, b3⟩
    have HV4 := Lib.hid (HV3.out.trans (show _ = (allTo (otherAt D name) k && (allTo (kidAt kids (k : Int)) kids.length && kd)) by rw [hl]; simp))
    clear HV3
    have hgo : ∀ lt : Bool, lt = little → (lt = false ∨ (lt = true ∧ (kind != 1) = false)) := by
      rintro lt rfl
      cases lt
      · exact .inl rfl
      · exact .inr ⟨rfl, by simpa [bne] using hl⟩
    have hgo := hgo little rfl
    clear hl
    have hcut := HCUT.out
    rcases hgo with rfl | ⟨rfl, hkq⟩
    all_goals
      go_wp2_with fail
      clear hcut
      try clear hkq
      have hs3 : w.heap.size ≤ w3.heap.size := b3.size
      have hs4 : gb < w3.heap.size := by omega
      go_loopw [37] (fun i wr => ∃ j : Nat, j ≤ k ∧ i = .int .i64 j ∧ Below w3.heap.size w3 wr ∧ allTo (otherAt D name) j = true) (fun i _ => k - (intOf i).toNat)
      case atStart => exact ⟨0, Nat.zero_le _, rfl, Below.refl _ _, rfl⟩
      case round =>
        obtain ⟨j, hj, rfl, hb, hall⟩ := hrel
        have hbw := b3.trans (hb.mono hs3)
        have hzr := hb.size
        have HB := Lib.hid hb
        have HBW := Lib.hid hbw
        by_cases hlt : j < k
        · obtain ⟨b, off, A1, c1, A2, c2, A3, c3, A4, c4, e, hbB2, g0, g1, g2, g3, g4, g5, g6, g7⟩ := HAL.out j (by omega)
          simp only [Option.some.injEq, Addr.mk.injEq, and_true] at e
          obtain ⟨rfl, rfl⟩ := e
          have hot := HOT.out name j (by omega)
          have hno := allTo_no (otherAt D name) j k hlt
          have hst := allTo_step (otherAt D name) j hall
          have hjl : j < l.length := by omega
          generalize l[j] = y at *
          have d0 := cell_at hbw (show bd < w.heap.size by omega) g0
          have d1 := cell_at hbw (show bd < w.heap.size by omega) g1
          have d2 := cell_at hbw (show bd < w.heap.size by omega) g2
          have d3 := cell_at hbw (show bd < w.heap.size by omega) g3
          have d4 := cell_at hbw (show bd < w.heap.size by omega) g4
          have d5 := cell_at hbw (show bd < w.heap.size by omega) g5
          have d6 := cell_at hbw (show bd < w.heap.size by omega) g6
          have d7 := cell_at hbw (show bd < w.heap.size by omega) g7
          have f0 := cell_later (Below.allocW wr (.cells #[.string y.d.name, .int .i64 y.d.kind, .int .i64 y.d.size, .bool y.d.little, .slice A1 y.d.bytes.length c1, .slice A2 y.d.names.length c2, .slice A3 y.d.tags.length c3, .slice A4 y.d.kids.length c4] 58) (Nat.le_refl _)) (cell_at hb (show gb < w3.heap.size by omega) e0)
          have HW := Lib.hid (below_step (Below.allocW wr (.cells #[.string y.d.name, .int .i64 y.d.kind, .int .i64 y.d.size, .bool y.d.little, .slice A1 y.d.bytes.length c1, .slice A2 y.d.names.length c2, .slice A3 y.d.tags.length c3, .slice A4 y.d.kids.length c4] 58) (Nat.le_refl _)) hbw)
          have HW3 := Lib.hid (hb.trans (Below.allocW wr (.cells #[.string y.d.name, .int .i64 y.d.kind, .int .i64 y.d.size, .bool y.d.little, .slice A1 y.d.bytes.length c1, .slice A2 y.d.names.length c2, .slice A3 y.d.tags.length c3, .slice A4 y.d.kids.length c4] 58) hzr))
          clear g0 g1 g2 g3 g4 g5 g6 g7 hall hb hbw e0 e1 e2 e3 e4 e5 e6 e7 cD
          cases he : (y.d.name.toList == name.toList)
          · have HX := Lib.hid (hst (by rw [hot, he]; rfl))
            clear hst hno hot
            go_wp2
            go_roundw
            case rel => exact ⟨j + 1, by omega, by go_num, HW3.out, HX.out⟩
            case measure => simp [intOf]; omega
          · have HX := Lib.hid (HV4.out.trans (show _ = false by rw [hno (by rw [hot, he]; rfl)]; rfl))
            clear hst hno hot
            go_wp2
            go_ret
            exact ⟨ret_bool HX.out.symm, HW.out⟩
        · have hjk : j = k := by omega
          have HY := Lib.hid (HV4.out.trans (show _ = (allTo (kidAt kids (k : Int)) kids.length && kd) by rw [← hjk, hall]; rfl))
          have cD := cell_at hb (show w.heap.size < w3.heap.size by omega) cD
          have f0 := cell_at hb (show gb < w3.heap.size by omega) e0
          have f1 := cell_at hb (show gb < w3.heap.size by omega) e1
          have f2 := cell_at hb (show gb < w3.heap.size by omega) e2
          have f3 := cell_at hb (show gb < w3.heap.size by omega) e3
          have f4 := cell_at hb (show gb < w3.heap.size by omega) e4
          have f5 := cell_at hb (show gb < w3.heap.size by omega) e5
          have f6 := cell_at hb (show gb < w3.heap.size by omega) e6
          have f7 := cell_at hb (show gb < w3.heap.size by omega) e7
          clear hall hjk HV4 HOT HNM HAL e0 e1 e2 e3 e4 e5 e6 e7 hb
          go_wp2_with fail
          go_loop [50] (fun i => ∃ j : Nat, j ≤ kids.length ∧ i = .int .i64 j ∧ allTo (kidAt kids (k : Int)) j = true) (fun i => kids.length - (intOf i).toNat)
          case atStart => exact ⟨0, Nat.zero_le _, rfl, rfl⟩
          case round =>
            obtain ⟨j, hj, rfl, hall⟩ := hrel
            by_cases hlt : j < kids.length
            · obtain ⟨bk, ok, rfl, hbk, ck0⟩ := x4 j hlt
              have hck := cell_at hbw (show bk < w.heap.size by omega) ck0
              have hka := kidAt_eq kids (k : Int) j hlt
              have hno := allTo_no (kidAt kids (k : Int)) j kids.length hlt
              have hst := allTo_step (kidAt kids (k : Int)) j hall
              generalize kids[j] = x at *
              clear ck0 x4 hall
              by_cases hx0 : x < 0
              · have HX := Lib.hid (HY.out.trans (show _ = false by rw [hno (by rw [hka, inB_false (by omega)])]; rfl))
                clear hst hno hka
                go_wp2
                go_ret
                exact ⟨ret_bool HX.out.symm, HBW.out⟩
              by_cases hx1 : x < k
              · have HX := Lib.hid (hst (by rw [hka, inB_true (by omega) (by omega)]))
                clear hst hno hka
                go_wp2
                go_round
                case rel => exact ⟨j + 1, by omega, by go_num, HX.out⟩
                case measure => simp [intOf]; omega
              · have HX := Lib.hid (HY.out.trans (show _ = false by rw [hno (by rw [hka, inB_false (by omega)])]; rfl))
                clear hst hno hka
                go_wp2
                go_ret
                exact ⟨ret_bool HX.out.symm, HBW.out⟩
            · have hjk : j = kids.length := by omega
              have HZ := Lib.hid (HY.out.trans (show _ = kd by rw [← hjk, hall]; rfl))
              clear hall hjk x4 HY
              go_wp2_with fail
              refine (HKK.out _ hbw).mono ?_
              rintro e w2 ⟨rfl, bel⟩
              have b2 := below_step bel hbw
              clear bel
              go_wp2
              go_ret
              exact ⟨ret_bool HZ.out.symm, b2⟩
end Go.Proofs.YtkfmdkogifmfmaaDoor
