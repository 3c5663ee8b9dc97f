/- The walks of EqualIndexes, spec and impl, and of the law. Every two slices of entries. -/
import Derived.Test.YtilhdoedeiiilaaSearch
import Derived.Test.YtilhdoedeiiilaaEntryS
namespace Go.Proofs.Ytilhdoedeiiilaa
open Go.RowKit

theorem stood_ent : Try.prog.stoodInHeld 42 = false := by kernel_rfl
theorem fields_ent : Try.prog.underlying 42 = some (.struct (Try.prog.fieldsOf 42)) := by kernel_rfl
theorem guard_ent : Try.prog.eqGuardType Try.prog.depth 42 = false := by kernel_rfl
theorem neq_ent (a b : Ent) (w : World) : (binOp .neq 42 (entV a) (entV b)).run Try.prog w = .ok (.bool (!(entB a b))) w := by
  unfold entV entB
  rw [run_neq_struct, run_equalIn_agg _ _ _ _ _ fields_ent stood_ent]
  go_simp
  repeat (first | rfl | (split <;> simp_all))
theorem eql_ent (a b : Ent) (w : World) : (binOp .eql 42 (entV a) (entV b)).run Try.prog w = .ok (.bool (entB a b)) w := by
  unfold entV entB
  rw [run_eql_struct, run_equalIn_agg _ _ _ _ _ fields_ent stood_ent]
  go_simp
  repeat (first | rfl | (split <;> simp_all))

def entsB : List Ent → List Ent → Bool
  | [], [] => true
  | a :: l, b :: l' => entB a b && entsB l l'
  | _, _ => false
theorem entsB_len : ∀ (l l' : List Ent), l.length ≠ l'.length → entsB l l' = false
  | [], [], h => absurd rfl h
  | a :: l, b :: l', h => by rw [entsB, entsB_len l l' (by simpa using h)]; simp
  | [], _ :: _, _ => rfl
  | _ :: _, [], _ => rfl
theorem entsB_all : ∀ (l l' : List Ent), l.length = l'.length → (∀ k (h : k < l.length) (h' : k < l'.length), entB l[k] l'[k] = true) → entsB l l' = true
  | [], [], _, _ => rfl
  | a :: l, b :: l', h, hk => by
    rw [entsB, show entB a b = true from hk 0 (by simp) (by simp), entsB_all l l' (by simpa using h) (fun k h1 h2 => hk (k + 1) (by simpa using h1) (by simpa using h2))]; rfl
  | [], _ :: _, h, _ => by simp at h
  | _ :: _, [], h, _ => by simp at h
theorem entsB_no : ∀ (l l' : List Ent) (k : Nat) (h : k < l.length) (h' : k < l'.length), entB l[k] l'[k] = false → entsB l l' = false
  | a :: l, b :: l', 0, _, _, hx => by have hx : entB a b = false := hx; rw [entsB, hx]; rfl
  | a :: l, b :: l', k + 1, h, h', hx => by rw [entsB, entsB_no l l' k (by simpa using h) (by simpa using h') (by simpa using hx)]; simp
  | [], _, _, h, _, _ => by simp at h
  | _ :: _, [], _, _, h', _ => by simp at h'

set_option maxHeartbeats 1000000 in
theorem specEqualIndexes_any (v v' : Value) (l l' : List Ent) (B B' : Nat) (w : World) (h : SlE w B v l) (h' : SlE w B' v' l') :
    Calls Try.prog 47 #[v, v'] w (Quiet w (.bool (entsB l l'))) := by
  obtain ⟨A, c, rfl, hc, hm, hcell⟩ := h.open_
  obtain ⟨A', c', rfl, hc', hm', hcell'⟩ := h'.open_
  unfold maxLen at hm hm'
  clear h h'
  by_cases hne : l.length = l'.length
  · have HE := Lib.hid hne
    have hb : ((l.length : Int) == (l'.length : Int)) = true := by rw [hne]; simp
    have hlen1 : l.length ≤ l'.length := by omega
    have hlen2 : l'.length ≤ l.length := by omega
    clear hne
    go_enter Try.func47, Try.ntmps47
    go_wp2
    go_loopw [5] (fun i wr => ∃ k n : Nat, k ≤ l.length ∧ i = .int .i64 k ∧ wr = w.drewN n ∧ ∀ j (h : j < l.length) (h' : j < l'.length), j < k → entB l[j] l'[j] = true) (fun i _ => l.length - (intOf i).toNat)
    case atStart => exact ⟨0, 0, Nat.zero_le _, rfl, rfl, fun _ _ _ h => absurd h (by omega)⟩
    case round =>
      obtain ⟨k, n, hk, rfl, rfl, ht⟩ := hrel
      have HT := Lib.hid ht
      clear ht
      by_cases hlt : k < l.length
      · obtain ⟨b, off, rfl, _, hc0, hc1, hc2, hc3⟩ := hcell k hlt
        obtain ⟨b', off', rfl, _, hd0, hd1, hd2, hd3⟩ := hcell' k (by omega)
        have hlt' : k < l'.length := by omega
        clear hcell hcell'
        have hneq : ∀ W : World, (binOp .neq 42 (.agg #[.string l[k].path, .int .i64 l[k].rule, .int .i64 l[k].start, .int .i64 l[k].stop]) (.agg #[.string l'[k].path, .int .i64 l'[k].rule, .int .i64 l'[k].start, .int .i64 l'[k].stop])).run Try.prog W = .ok (.bool (!(entB l[k] l'[k]))) W := fun W => neq_ent l[k] l'[k] W
        have hgd := guard_ent
        cases hx : entB l[k] l'[k]
        · have HX := Lib.hid (entsB_no l l' k hlt hlt' hx)
          go_wp2
          go_quiet (fail)
          go_wp2
          go_ret
          exact ⟨ret_bool HX.out.symm, _, World.drewN_drewN _ _ _⟩
        · have HX := Lib.hid hx
          go_wp2
          go_quiet (fail)
          go_wp2
          go_roundw
          case rel =>
            refine ⟨k + 1, _, by omega, by go_num, rfl, fun j h h' hj => ?_⟩
            by_cases hjk : j = k
            · subst hjk; exact HX.out
            · exact HT.out j h h' (by omega)
          case measure => simp [intOf] <;> omega
      · have HX := Lib.hid (entsB_all l l' HE.out (fun j h h' => HT.out j h h' (by omega)))
        clear hcell hcell'
        go_wp2
        go_ret
        exact ⟨ret_bool HX.out.symm, _, rfl⟩
  · have hb : ((l.length : Int) == (l'.length : Int)) = false := by rw [beq_eq_false_iff_ne]; omega
    have HX := Lib.hid (entsB_len l l' hne)
    clear hne hcell hcell'
    go_enter Try.func47, Try.ntmps47
    go_wp2
    go_ret
    exact ⟨ret_bool HX.out.symm, 0, rfl⟩
set_option maxHeartbeats 1000000 in
theorem equalSlicesEnt_any (v v' : Value) (l l' : List Ent) (B B' : Nat) (w : World) (h : SlE w B v l) (h' : SlE w B' v' l') :
    Calls Try.prog 66 #[v, v'] w (Quiet w (.bool (entsB l l'))) := by
  obtain ⟨A, c, rfl, hc, hm, hcell⟩ := h.open_
  obtain ⟨A', c', rfl, hc', hm', hcell'⟩ := h'.open_
  unfold maxLen at hm hm'
  clear h h'
  by_cases hne : l.length = l'.length
  · have HE := Lib.hid hne
    have hb : ((l.length : Int) == (l'.length : Int)) = true := by rw [hne]; simp
    have hlen1 : l.length ≤ l'.length := by omega
    have hlen2 : l'.length ≤ l.length := by omega
    clear hne
    go_enter Try.func66, Try.ntmps66
    go_wp2
    go_loopw [13] (fun i wr => ∃ k n : Nat, k ≤ l.length ∧ i = .int .i64 k ∧ wr = w.drewN n ∧ ∀ j (h : j < l.length) (h' : j < l'.length), j < k → entB l[j] l'[j] = true) (fun i _ => l.length - (intOf i).toNat)
    case atStart => exact ⟨0, 0, Nat.zero_le _, rfl, rfl, fun _ _ _ h => absurd h (by omega)⟩
    case round =>
      obtain ⟨k, n, hk, rfl, rfl, ht⟩ := hrel
      have HT := Lib.hid ht
      clear ht
      by_cases hlt : k < l.length
      · obtain ⟨b, off, rfl, _, hc0, hc1, hc2, hc3⟩ := hcell k hlt
        obtain ⟨b', off', rfl, _, hd0, hd1, hd2, hd3⟩ := hcell' k (by omega)
        have hlt' : k < l'.length := by omega
        clear hcell hcell'
        have hneq : ∀ W : World, (binOp .neq 42 (.agg #[.string l[k].path, .int .i64 l[k].rule, .int .i64 l[k].start, .int .i64 l[k].stop]) (.agg #[.string l'[k].path, .int .i64 l'[k].rule, .int .i64 l'[k].start, .int .i64 l'[k].stop])).run Try.prog W = .ok (.bool (!(entB l[k] l'[k]))) W := fun W => neq_ent l[k] l'[k] W
        have hgd := guard_ent
        cases hx : entB l[k] l'[k]
        · have HX := Lib.hid (entsB_no l l' k hlt hlt' hx)
          go_wp2
          go_quiet (fail)
          go_wp2
          go_ret
          exact ⟨ret_bool HX.out.symm, _, World.drewN_drewN _ _ _⟩
        · have HX := Lib.hid hx
          go_wp2
          go_quiet (fail)
          go_wp2
          go_roundw
          case rel =>
            refine ⟨k + 1, _, by omega, by go_num, rfl, fun j h h' hj => ?_⟩
            by_cases hjk : j = k
            · subst hjk; exact HX.out
            · exact HT.out j h h' (by omega)
          case measure => simp [intOf] <;> omega
      · have HX := Lib.hid (entsB_all l l' HE.out (fun j h h' => HT.out j h h' (by omega)))
        clear hcell hcell'
        go_wp2
        go_ret
        exact ⟨ret_bool HX.out.symm, _, rfl⟩
  · have hb : ((l.length : Int) == (l'.length : Int)) = false := by rw [beq_eq_false_iff_ne]; omega
    have HX := Lib.hid (entsB_len l l' hne)
    clear hne hcell hcell'
    go_enter Try.func66, Try.ntmps66
    go_wp2
    go_ret
    exact ⟨ret_bool HX.out.symm, 0, rfl⟩
theorem implEqualIndexes_any (v v' : Value) (l l' : List Ent) (B B' : Nat) (w : World) (h : SlE w B v l) (h' : SlE w B' v' l') :
    Calls Try.prog 48 #[v, v'] w (Quiet w (.bool (entsB l l'))) := by
  go_enter Try.func48, Try.ntmps48
  go_wp2_with fail
  refine (equalSlicesEnt_any v v' l l' B B' _ h h').mono ?_
  rintro e w2 ⟨rfl, n, rfl⟩
  go_wp2
  go_ret
  exact ⟨rfl, n, rfl⟩
end Go.Proofs.Ytilhdoedeiiilaa
namespace Go.Proofs.Ytilhdoedeiiilaa.FnExactEqualIndexes
open Go.RowKit
set_option maxHeartbeats 2000000 in
theorem walk (v : Value) (l : List Ent) (u : Value) (m : List Ent) (w : World) (h : SlE w w.heap.size v l) (hok : ∀ e ∈ l, e.ok) (g : SlE w w.heap.size u m) (gok : ∀ e ∈ m, e.ok) :
    Calls Try.prog 13 #[v, u] w fun e w' => e = .returned (.bool true) ∧ Below w.heap.size w w' := by
  go_enter Try.func13, Try.ntmps13
  go_wp2_with fail
  refine (szEntryS_any v l _ 1048576 _ h (Nat.le_refl _) (fun e he => (hok e he).1) (by omega) (by omega)).mono ?_
  rintro e w1 ⟨r, rfl, bel1, hr⟩
  rcases hr with rfl | ⟨hr0, hr1, hlen, _⟩
  · have HB := Lib.hid bel1
    clear bel1 h hok g gok
    go_wp2
    go_ret
    exact ⟨rfl, HB.out⟩
  have hl : l.length ≤ 1048576 := by omega
  clear hlen
  go_wp2_with fail
  refine (szEntryS_any u m _ r _ (g.below bel1) bel1.size (fun e he => (gok e he).1) hr0 hr1).mono ?_
  rintro e w2 ⟨r2, rfl, bel2, hr2⟩
  have b2 := below_step bel2 bel1
  rcases hr2 with rfl | ⟨hr20, hr21, hlen2, _⟩
  · have HB := Lib.hid b2
    clear bel1 h hok g gok bel2 b2
    go_wp2
    go_ret
    exact ⟨rfl, HB.out⟩
  have hm : m.length ≤ 1048576 := by omega
  clear hlen2
  go_wp2_with fail
  refine (toEntryS_any v l _ _ (h.below b2) b2.size hl).mono ?_
  rintro e w3 ⟨v3, rfl, own3, bel3⟩
  have b3 := below_step bel3 b2
  go_wp2_with fail
  refine (toEntryS_any u m _ _ (g.below b3) b3.size hm).mono ?_
  rintro e w4 ⟨v4, rfl, own4, bel4⟩
  have b4 := below_step bel4 b3
  have own3' := own_below own3 bel4 (Nat.le_refl _)
  go_wp2_with fail
  refine (specEqualIndexes_any v3 v4 l m _ _ _ (Sl.of_own own3') (Sl.of_own own4)).mono ?_
  rintro e w5 ⟨rfl, n5, rfl⟩
  have b5 := below_drewN b4 n5
  go_wp2_with fail
  refine (toEntryS_any v l _ _ (h.below b5) b5.size hl).mono ?_
  rintro e w6 ⟨v6, rfl, own6, bel6⟩
  have b6 := below_step bel6 b5
  go_wp2_with fail
  refine (toEntryS_any u m _ _ (g.below b6) b6.size hm).mono ?_
  rintro e w7 ⟨v7, rfl, own7, bel7⟩
  have b7 := below_step bel7 b6
  have own6' := own_below own6 bel7 (Nat.le_refl _)
  go_wp2_with fail
  refine (implEqualIndexes_any v6 v7 l m _ _ _ (Sl.of_own own6') (Sl.of_own own7)).mono ?_
  rintro e w8 ⟨rfl, n8, rfl⟩
  have b8 := below_drewN b7 n8
  have own6 : (w7.drewN n8).ownsRow _ _ _ _ _ _ := own6'
  have own7 : (w7.drewN n8).ownsRow _ _ _ _ _ _ := own7
  go_wp2_with fail
  refine (toEntryS_any v l _ _ (h.below b8) b8.size hl).mono ?_
  rintro e w9 ⟨v9, rfl, own9, bel9⟩
  have b9 := below_step bel9 b8
  go_wp2_with fail
  refine (eqEntryS_any v6 v9 l l _ _ _ (Sl.of_own (own_below own6 bel9 (Nat.le_refl _))) (Sl.of_own own9) (Nat.le_refl _) (Nat.le_refl _) rfl).mono ?_
  rintro e w10 ⟨rfl, bel10⟩
  have b10 := below_step bel10 b9
  have own7' := own_below (own_below own7 bel9 (Nat.le_refl _)) bel10 (Nat.le_refl _)
  go_wp2_with fail
  refine (toEntryS_any u m _ _ (g.below b10) b10.size hm).mono ?_
  rintro e w11 ⟨v11, rfl, own11, bel11⟩
  have b11 := below_step bel11 b10
  go_wp2_with fail
  refine (eqEntryS_any v7 v11 m m _ _ _ (Sl.of_own (own_below own7' bel11 (Nat.le_refl _))) (Sl.of_own own11) (Nat.le_refl _) (Nat.le_refl _) rfl).mono ?_
  rintro e w12 ⟨rfl, bel12⟩
  have HB := Lib.hid (below_step bel12 b11)
  clear bel12 b11 bel11 b10 bel10 b9 bel9 b8 b7 bel7 b6 bel6 b5 b4 bel4 b3 bel3 b2 bel2 bel1 own3 own3' own4 own6 own6' own7 own7' own9 own11 h hok g gok
  go_wp2
  go_ret
  exact ⟨rfl, HB.out⟩
end Go.Proofs.Ytilhdoedeiiilaa.FnExactEqualIndexes
