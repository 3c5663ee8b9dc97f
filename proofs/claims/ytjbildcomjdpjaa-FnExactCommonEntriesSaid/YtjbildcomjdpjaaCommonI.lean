/- The walk of impl.CommonEntries. Conditions: the slices read as lists of entries. -/
import Derived.Test.YtjbildcomjdpjaaCommonS
import Derived.Test.YtjbildcomjdpjaaCommon
import Derived.WalkSpells
import Derived.WalkLawsBesides
namespace Go.Proofs.Ytjbildcomjdpjaa
open Go.RowKit Go.Maps
theorem zeroBool (w : World) : (zeroValue 4).run Try.prog w = .ok (.bool false) w := by kernel_rfl
theorem entB_iff (a b : Ent) : entB a b = true ↔ a = b := by
  obtain ⟨p, x, y, z⟩ := a
  obtain ⟨p', x', y', z'⟩ := b
  simp only [entB, Bool.and_eq_true, beq_iff_eq, Ent.mk.injEq]
  constructor
  · rintro ⟨h, h1, h2, h3⟩
    rw [ByteArray.toList_eq, ByteArray.toList_eq] at h
    exact ⟨Go.WideShapes.bytes_inj h, h1, h2, h3⟩
  · rintro ⟨rfl, h1, h2, h3⟩
    exact ⟨rfl, h1, h2, h3⟩
abbrev OwnM (w : World) (b n : Nat) (D : DataW Unit) : Prop := w.ownsMap Try.prog 54 (plainElem Try.prog 4) b n D
def Says (D : DataW Unit) (f : Ent → Bool) : Prop := ∀ e : Ent, e.ok → D.atKey (KL e) (.lit (.bool false)) = .lit (.bool (f e))
theorem Says.put {D : DataW Unit} {a : List Ent} {k : Nat} (h : Says D (hasE (a.take k))) (hk : k < a.length) (hok : ∀ e ∈ a, e.ok) (hm : IsMap D) : Says (D.put (KL a[k]) (.lit (.bool true))) (hasE (a.take (k + 1))) := by
  intro e he
  have hka := hok _ (List.getElem_mem hk)
  rw [hasE_next a e k hk]
  by_cases hx : a[k] = e
  · rw [hx, (entB_iff e e).2 rfl, Bool.or_true]
    rw [← hx]
    exact atKey_put_same hm (entKeyed.key (keyOf_KL _ hka)) _ _
  · have h1 : entB a[k] e = false := by cases hc : entB a[k] e with | false => rfl | true => exact absurd ((entB_iff _ _).1 hc) hx
    rw [h1, Bool.or_false, atKey_put_other (fun h => hx (KL_inj hka he h.symm))]
    exact h e he
theorem Says.del {D : DataW Unit} {a b : List Ent} {k : Nat} (h : Says D (fun e => hasE a e && !hasE (b.take k) e)) (hk : k < b.length) (hok : ∀ e ∈ b, e.ok) : Says (D.del (KL b[k])) (fun e => hasE a e && !hasE (b.take (k + 1)) e) := by
  intro e he
  have hkb := hok _ (List.getElem_mem hk)
  dsimp only
  rw [hasE_next b e k hk]
  by_cases hx : b[k] = e
  · rw [hx, (entB_iff e e).2 rfl, Bool.or_true, ← hx, atKey_del_same]
    simp
  · have h1 : entB b[k] e = false := by cases hc : entB b[k] e with | false => rfl | true => exact absurd ((entB_iff _ _).1 hc) hx
    rw [h1, Bool.or_false, atKey_del_other (fun h => hx (KL_inj hkb he h.symm))]
    exact h e he
set_option maxHeartbeats 2000000 in
set_option maxRecDepth 100000 in
theorem implCommon_any (v v' : Value) (a b : List Ent) (B : Nat) (w : World) (h : SlE w B v a) (h' : SlE w B v' b) (hB : B ≤ w.heap.size) (ha : a.length ≤ 2097152) (hb : b.length ≤ 2097152) (oka : ∀ e ∈ a, e.ok) (okb : ∀ e ∈ b, e.ok) :
    Calls Try.prog 25 #[v, v'] w fun e w' => e = .returned (.int .i64 (comN a b : Nat)) ∧ Below w.heap.size w w' := by
  obtain ⟨A, c, rfl, hc, hm, hcell⟩ := h.open_
  obtain ⟨A', c', rfl, hc', hm', hcell'⟩ := h'.open_
  unfold maxLen at hm hm'
  clear h h'
  go_enter Try.func25, Try.ntmps25
  have hmm := @run_makeMap Try.prog
  go_wp2
  clear hmm
  go_loopw [7, 16] (fun _ i wr => ∃ (k : Nat) (D : DataW Unit), k ≤ a.length ∧ i = .int .i64 k ∧ OwnM wr w.heap.size k D ∧ Says D (hasE (a.take k)) ∧ Below w.heap.size w wr) (fun _ i _ => a.length - (intOf i).toNat)
  case atStart => exact ⟨0, .map [], Nat.zero_le _, rfl, World.ownsMap_made _ _ _ _, fun e _ => rfl, (Below.refl _ _).alloc (Nat.le_refl _) _⟩
  case round =>
    obtain ⟨k, D, hk, rfl, hown, hs, hbel⟩ := hrel
    have HO := Lib.hid hown
    have HS := Lib.hid hs
    have HB := Lib.hid hbel
    have hsz := hbel.size
    have hlt0 := hown.lt
    clear hown hs hbel
    by_cases hlt : k < a.length
    · obtain ⟨bk, off, rfl, hbk, hc0, hc1, hc2, hc3⟩ := hcell k hlt
      have e0 := Lib.hid hc0
      have d0 := (HB.out.cell (p := ⟨bk, off + k * 4, none⟩) (by show bk < _; omega)).trans hc0
      have d1 := (HB.out.cell (p := ⟨bk, off + k * 4 + 1, none⟩) (by show bk < _; omega)).trans hc1
      have d2 := (HB.out.cell (p := ⟨bk, off + k * 4 + 2, none⟩) (by show bk < _; omega)).trans hc2
      have d3 := (HB.out.cell (p := ⟨bk, off + k * 4 + 3, none⟩) (by show bk < _; omega)).trans hc3
      clear hcell hcell' hc0 hc1 hc2 hc3 e0
      go_wp2_with (at_mapUpdate; refine wpList_mapUpdate_own _ rfl _ _ _ 60 rfl 54 4 entKeyed Try.underlying60 _ w.heap.size k D rfl (HO.out.alloc _) (by unfold maxLen; omega) (entV a[k]) (.bool true) (KL a[k]) rfl rfl (keyOf_KL _ (oka _ (List.getElem_mem hlt))) (.lit (.bool true)) [] (plainElem_bool Try.underlying4 true) ?_; intro w1 hown1 hgrow1)
      have H := Lib.hid (And.intro hown1 (And.intro (HS.out.put hlt oka HO.out.isMap) ((HB.out.alloc hsz _).grown hgrow1 (by simp; omega) (fun k e => by injection e; omega))))
      clear hown1 hgrow1 d0 d1 d2 d3
      go_roundw
      case rel => exact ⟨k + 1, _, by omega, by go_num, H.out.1, H.out.2.1, H.out.2.2⟩
      case measure => simp [intOf]; omega
    · have HX := Lib.hid (show Says D (fun e => hasE a e && !hasE (b.take 0) e) by
        have := HS.out
        rw [List.take_of_length_le (by omega)] at this
        intro e he; rw [this e he]; simp [hasE])
      go_wp2
      go_loopw [9, 25] (fun _ i wr => ∃ (k : Nat) (D : DataW Unit), k ≤ b.length ∧ i = .int .i64 k ∧ OwnM wr w.heap.size a.length D ∧ Says D (fun e => hasE a e && !hasE (b.take k) e) ∧ Below w.heap.size w wr) (fun _ i _ => b.length - (intOf i).toNat)
      case atStart => exact ⟨0, D, Nat.zero_le _, rfl, HO.out.mono hk, HX.out, HB.out⟩
      case round =>
        clear HO HS HB hsz hlt0 HX
        obtain ⟨j, D2, hj, rfl, hown, hs, hbel⟩ := hrel
        have HO := Lib.hid hown
        have HS := Lib.hid hs
        have HB := Lib.hid hbel
        have hsz := hbel.size
        have hlt0 := hown.lt
        clear hown hs hbel
        by_cases hlt2 : j < b.length
        · obtain ⟨bk, off, rfl, hbk, hc0, hc1, hc2, hc3⟩ := hcell' j hlt2
          have d0 := (HB.out.cell (p := ⟨bk, off + j * 4, none⟩) (by show bk < _; omega)).trans hc0
          have d1 := (HB.out.cell (p := ⟨bk, off + j * 4 + 1, none⟩) (by show bk < _; omega)).trans hc1
          have d2 := (HB.out.cell (p := ⟨bk, off + j * 4 + 2, none⟩) (by show bk < _; omega)).trans hc2
          have d3 := (HB.out.cell (p := ⟨bk, off + j * 4 + 3, none⟩) (by show bk < _; omega)).trans hc3
          clear hcell hcell' hc0 hc1 hc2 hc3
          go_wp2_with (at_delete; refine wpList_delete_own _ rfl _ _ 60 54 rfl 4 entKeyed Try.underlying60 _ w.heap.size a.length D2 rfl (HO.out.alloc _) (entV b[j]) (KL b[j]) rfl (keyOf_KL _ (okb _ (List.getElem_mem hlt2))) ?_; intro w1 hown1 hturn1)
          have H := Lib.hid (And.intro hown1 (And.intro (HS.out.del hlt2 okb) ((HB.out.alloc hsz _).grown hturn1.grown (by simp; omega) (fun k e => by injection e; omega))))
          clear hown1 hturn1 d0 d1 d2 d3
          go_roundw
          case rel => exact ⟨j + 1, _, by omega, by go_num, H.out.1, H.out.2.1, H.out.2.2⟩
          case measure => simp [intOf]; omega
        · have HX := Lib.hid (show Says D2 (fun e => hasE a e && !hasE b e) by
            have := HS.out
            rw [List.take_of_length_le (by omega)] at this
            exact this)
          go_wp2
          go_loopw [10, 12, 34] (fun q _ i wr => ∃ k : Nat, k ≤ a.length ∧ i = .int .i64 k ∧ q = .int .i64 (comN (a.take k) b : Nat) ∧ OwnM wr w.heap.size a.length D2 ∧ Below w.heap.size w wr) (fun _ _ i _ => a.length - (intOf i).toNat)
          case atStart => exact ⟨0, Nat.zero_le _, rfl, rfl, HO.out, HB.out⟩
          case round =>
            clear HO HS HB hsz hlt0
            obtain ⟨i, hi, rfl, rfl, hown, hbel⟩ := hrel
            have hle := comN_le a b i
            have HO := Lib.hid hown
            have HB := Lib.hid hbel
            have hsz := hbel.size
            have hlt0 := hown.lt
            clear hown hbel
            by_cases hlt3 : i < a.length
            · obtain ⟨bk, off, rfl, hbk, hc0, hc1, hc2, hc3⟩ := hcell i hlt3
              have d0 := (HB.out.cell (p := ⟨bk, off + i * 4, none⟩) (by show bk < _; omega)).trans hc0
              have d1 := (HB.out.cell (p := ⟨bk, off + i * 4 + 1, none⟩) (by show bk < _; omega)).trans hc1
              have d2 := (HB.out.cell (p := ⟨bk, off + i * 4 + 2, none⟩) (by show bk < _; omega)).trans hc2
              have d3 := (HB.out.cell (p := ⟨bk, off + i * 4 + 3, none⟩) (by show bk < _; omega)).trans hc3
              clear hcell hcell' hc0 hc1 hc2 hc3
              have hself : hasE a a[i] = true := by unfold hasE; rw [List.any_eq_true]; exact ⟨a[i], List.getElem_mem hlt3, entB_self _⟩
              have HAT := Lib.hid (show D2.atKey (KL a[i]) (.lit (.bool false)) = .lit (.bool (!hasE b a[i])) by
                have := HX.out a[i] (oka _ (List.getElem_mem hlt3))
                dsimp only at this; rw [hself, Bool.true_and] at this; exact this)
              have HN := comN_next a b i hlt3
              cases hf : hasE b a[i]
              · rw [hf] at HN HAT
                have HN := Lib.hid (show comN (a.take (i + 1)) b = comN (a.take i) b from HN)
                go_wp2_with (at_lookup; refine wpList_lookup_own_bool rfl _ _ 60 rfl 54 4 entKeyed Try.underlying60 Try.underlying4 (zeroBool _) w.heap.size a.length D2 rfl (HO.out.alloc _) (entV a[i]) (KL a[i]) rfl (keyOf_KL _ (oka _ (List.getElem_mem hlt3))) true HAT.out ?_)
                go_roundw
                case rel => exact ⟨i + 1, by omega, by go_num, by rw [HN.out], HO.out.alloc _, HB.out.alloc hsz _⟩
                case measure => simp [intOf]; omega
              · rw [hf] at HN HAT
                have HN := Lib.hid (show comN (a.take (i + 1)) b = comN (a.take i) b + 1 from HN)
                go_wp2_with (at_lookup; refine wpList_lookup_own_bool rfl _ _ 60 rfl 54 4 entKeyed Try.underlying60 Try.underlying4 (zeroBool _) w.heap.size a.length D2 rfl (HO.out.alloc _) (entV a[i]) (KL a[i]) rfl (keyOf_KL _ (oka _ (List.getElem_mem hlt3))) false HAT.out ?_)
                go_roundw
                case rel => exact ⟨i + 1, by omega, by go_num, by rw [HN.out]; go_num, HO.out.alloc _, HB.out.alloc hsz _⟩
                case measure => simp [intOf]; omega
            · have HZ := Lib.hid (show a.take i = a from List.take_of_length_le (by omega))
              clear hcell hcell'
              go_wp2
              go_ret
              exact ⟨ret_int (by rw [HZ.out]), HB.out⟩
end Go.Proofs.Ytjbildcomjdpjaa
