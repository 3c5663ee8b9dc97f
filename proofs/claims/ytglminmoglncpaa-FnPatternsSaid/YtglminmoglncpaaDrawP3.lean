/- The draws of patterns. Conditions: the cursor's block holds a cursor; the texts are short. -/
import Derived.Test.YtglminmoglncpaaDrawP2
import Derived.Test.YtglminmoglncpaaPathP
import Derived.WalkSpells
import Derived.WalkLawsBesides
namespace Go.Proofs.Ytglminmoglncpaa
open Go.RowKit
/-- A list of its own that a draw built. -/
def DrawL (b : Nat) (v : Value) (l : List UInt8) (n k : Nat) (w : World) (e : Ending) (w' : World) : Prop :=
  ∃ (u : Value) (L : List ByteArray), e = .returned u ∧ w'.ownsRow w.heap.size 9 1 u L.length (L.map .string) ∧ L.length ≤ n ∧ (∀ x ∈ L, x.size ≤ k ∧ clean x = true) ∧ GoB b w w' ∧ CurW b v l w'
set_option maxHeartbeats 2000000 in
set_option maxRecDepth 100000 in
theorem l21Texts_any (b : Nat) (v : Value) (l : List UInt8) (w : World) (h : CurW b v l w) :
    Calls Try.prog 40 #[.pointer (some ⟨b, 0, none⟩)] w (DrawL b v l 4 1 w) := by
  obtain ⟨i0, hi, hz0, hz1, hz2⟩ := info_parts Try.info_str
  have h0 := h.lt
  have HP := Lib.hid (PS.mk (l := l) (v := v) (b := b) (w := w) (lo := w.heap.size) (hi := w.heap.size) (u := .slice none 0 0) (L := []) (base := w.heap.size) (o := .slice (some ⟨w.heap.size, 0, none⟩) 0 0) (R := []) (wr := w.alloc (.cells #[] 9))
    ((GoB.of_below ((Below.refl _ _).alloc (Nat.le_refl _) _))) (h.alloc _) (rdS_nil (by simp)) (own_empty_at rfl (Nat.le_refl _)) h0 (Nat.le_refl _) (Nat.le_refl _) (Nat.le_refl _) (by simp))
  go_enter Try.func40, Try.ntmps40
  go_wp2_with fail
  refine (below_any b b v l 5 _ HP.out.cur (by omega) (by omega)).mono ?_
  rintro e w1 ⟨⟨x, rfl, hx0, hx1⟩, hs, hz, hc⟩
  obtain ⟨n, rfl⟩ := Int.eq_ofNat_of_zero_le hx0
  have HP1 := Lib.hid (HP.out.step hs hc)
  clear hs hc h hz HP
  go_wp2
  go_loopw [3, 4] (fun o i wr => ∃ (k : Nat) (R : List ByteArray), i = .int .i64 k ∧ k + R.length ≤ 4 ∧ (∀ x ∈ R, x.size ≤ 1 ∧ clean x = true) ∧ PS b v l w w.heap.size w.heap.size (.slice none 0 0) [] w.heap.size o R wr) (fun _ i _ => (intOf i).natAbs)
  case atStart => exact ⟨n, [], rfl, by simp; omega, by simp, HP1.out⟩
  case round =>
    obtain ⟨k, R, rfl, hk, hall, hps⟩ := hrel
    have HA := Lib.hid hall
    have HQ := Lib.hid hps
    clear hall hps HP1
    by_cases hk0 : k = 0
    · subst hk0
      have hz : decide ((0 : Int) < ((0 : Nat) : Int)) = false := rfl
      go_wp2
      go_ret
      exact ⟨_, R, rfl, HQ.out.own, by omega, HA.out, HQ.out.go, HQ.out.cur⟩
    · have hpos : (0 : Int) < k := by omega
      go_wp2_with fail
      refine (l1Str_any b wr.heap.size (wr.heap.size + 1) v _ l xs21 _ (HQ.out.cur.alloc _) (rdS_lit xs21 _ rfl _ _ rfl rfl (by decide)) HQ.out.cur.lt (by decide) (by decide)).mono ?_
      rintro e w2 ⟨⟨y, hy, rfl⟩, hs2, hz2, hc2⟩
      have hy2 := Lib.hid (xs21_all y hy)
      have HQ2 := Lib.hid ((HQ.out.alloc _).step hs2 hc2)
      have hlo := HQ2.out.hsz
      clear hs2 hc2 hy hz2 HQ
      go_wp2_with (at_builtin; refine wpList_app _ rfl (.tmp 12) (.tmp 16) 22 rfl w.heap.size 9 i0 (.string ⟨#[]⟩) 1 16 Try.underlying22 hi hz0 hz1 hz2 rfl (by decide) _ R.length _ rfl (HQ2.out.alloc _).own _ 1 _ [.string y] rfl (sl_str_one rfl) (by simp [Value.oneCell']) (by omega) (by unfold maxLen; omega) (by simp; omega) ?_; intro v2 w3 own2 hg2 _)
      have HQ3 := Lib.hid (PS.app (R2 := R ++ [y]) (HQ2.out.alloc _) own2 (by simp) (by simp) hg2)
      clear own2 hg2
      go_roundw
      case rel => exact ⟨k - 1, R ++ [y], by congr 1; go_num, by simp; omega, fun x hx => by
        rcases List.mem_append.1 hx with h | h
        · exact HA.out x h
        · simp only [List.mem_singleton] at h
          subst h
          exact hy2.out, HQ3.out⟩
      case measure => simp [intOf]; omega
def xsPat : List ByteArray := [⟨#[46, 46]⟩, ⟨#[35]⟩, ⟨#[112, 49]⟩, ⟨#[35, 35]⟩]
theorem xsPat_all : ∀ x ∈ xsPat, x.size ≤ 16 := by
  have : (xsPat.all fun x => decide (x.size ≤ 16)) = true := by rfl
  intro x hx
  have := List.all_eq_true.1 this x hx
  simpa using this
theorem total_leN (N : Nat) : ∀ L : List ByteArray, (∀ p ∈ L, p.size ≤ N) → total L ≤ L.length * N
  | [], _ => by simp [total]
  | x :: L, h => by
    have h1 := h x (by simp)
    have h2 := total_leN N L (fun p hp => h p (by simp [hp]))
    simp only [total, List.length_cons, Nat.succ_mul]
    omega
set_option maxHeartbeats 4000000 in
set_option maxRecDepth 100000 in
theorem l21Pattern_any (b : Nat) (v : Value) (l : List UInt8) (s : ByteArray) (w : World) (h : CurW b v l w) (hs : s.size ≤ 16) :
    Calls Try.prog 43 #[.pointer (some ⟨b, 0, none⟩), .string s] w fun e w' => (∃ S : ByteArray, e = .returned (.string S) ∧ S.size ≤ 4096) ∧ GoB b w w' ∧ CurW b v l w' := by
  obtain ⟨i0, hi, hz0, hz1, hz2⟩ := info_parts Try.info_str
  have h0 := h.lt
  go_enter Try.func43, Try.ntmps43
  go_wp2_with fail
  refine (specSplitPath_any s w (by omega)).mono ?_
  rintro e w1 ⟨u, rfl, hrd, hb1⟩
  have hlen : (spL isStep s).length ≤ 16 := by
    have h2 := (splitT_length s 47).1
    unfold spL
    split
    · rw [tailT, List.length_tail]; omega
    · simp
  have HSZ := Lib.hid (show ∀ p ∈ spL isStep s, p.size ≤ 16 from fun p hp => Nat.le_trans (splitL_sizes isStep s p hp) hs)
  generalize spOk isStep s = ok at *
  generalize spL isStep s = L at *
  obtain ⟨A, c, rfl⟩ : ∃ A c, u = .slice A L.length c := by
    obtain ⟨_, A, c, e, _⟩ := hrd.1
    exact ⟨A, c, e⟩
  have hs1 := hb1.size
  have HP := Lib.hid (PS.mk (l := l) (v := v) (b := b) (w := w) (lo := w.heap.size) (hi := w1.heap.size) (u := .slice A L.length c) (L := L) (base := w1.heap.size) (o := .slice (some ⟨w1.heap.size, 0, none⟩) 0 0) (R := []) (wr := w1.alloc (.cells #[] 9))
    ((GoB.of_below hb1).alloc _) ((h.below hb1).alloc _) (hrd.keep (Out.of_below ((Below.refl _ _).alloc (Nat.le_refl _) _) w1.heap.size w1.heap.size) (by omega)) (own_empty_at rfl (Nat.le_refl _)) h0 (Nat.le_refl _) hs1 hs1 (by simp))
  clear h hrd hb1
  go_wp2
  go_loopw [7, 8] (fun o i wr => ∃ (k : Nat) (R : List ByteArray), k ≤ L.length ∧ i = .int .i64 k ∧ R.length ≤ 2 * k ∧ (∀ x ∈ R, x.size ≤ 16) ∧ PS b v l w w.heap.size w1.heap.size (.slice A L.length c) L w1.heap.size o R wr) (fun _ i _ => L.length - (intOf i).toNat)
  case atStart => exact ⟨0, [], Nat.zero_le _, rfl, by simp, by simp, HP.out⟩
  case round =>
    obtain ⟨k, R, hk, rfl, hkR, hall, hps⟩ := hrel
    have HA := Lib.hid hall
    have HQ := Lib.hid hps
    clear hall hps HP
    by_cases hlt : k < L.length
    · go_wp2_with fail
      refine (below_any b b v l 6 _ HQ.out.cur (by omega) (by omega)).mono ?_
      rintro e w2 ⟨⟨x, rfl, hx0, hx1⟩, hs2, hz2', hc2⟩
      have HQ2 := Lib.hid (HQ.out.step hs2 hc2)
      obtain ⟨A', c', e', hc1, hcm, hcell⟩ := (show SlS w2 w1.heap.size (.slice A L.length c) L from HQ2.out.rd.1).one
      cases e'
      obtain ⟨bb, off, rfl, hbb, hd⟩ := hcell k hlt
      have hy16 := HSZ.out _ (List.getElem_mem hlt)
      generalize L[k] = y at *
      have hlo := HQ2.out.hsz
      unfold maxLen at hcm
      clear hs2 hc2 hz2' HQ hcell
      have hx : x = 0 ∨ x = 1 ∨ x = 2 ∨ (x ≠ 0 ∧ x ≠ 1 ∧ x ≠ 2) := by omega
      rcases hx with rfl | rfl | rfl | ⟨n0, n1, n2⟩
      · skip
        go_wp2_with (at_builtin; refine wpList_app _ rfl (.tmp 32) (.tmp 33) 22 rfl w1.heap.size 9 i0 (.string ⟨#[]⟩) 1 16 Try.underlying22 hi hz0 hz1 hz2 rfl (by decide) _ R.length _ rfl (HQ2.out.alloc _).own _ 1 _ [.string ⟨#[35]⟩] rfl ((rdS_lit [⟨#[35]⟩] _ rfl _ _ rfl rfl (by decide)).1) (by simp [Value.oneCell']) (by omega) (by unfold maxLen; omega) (by simp; omega) ?_; intro v2 w3 own2 hg2 _)
        have HQ3 := Lib.hid (PS.app (R2 := R ++ [⟨#[35]⟩]) (HQ2.out.alloc _) own2 (by simp) (by simp) hg2)
        clear own2 hg2
        go_roundw
        case rel => exact ⟨k + 1, R ++ [⟨#[35]⟩], by omega, by go_num, by simp; omega, fun x hx => by
          rcases List.mem_append.1 hx with h | h
          · exact HA.out x h
          · simp only [List.mem_cons, List.not_mem_nil, or_false] at h
            subst h; decide, HQ3.out⟩
        case measure => simp [intOf]; omega
      · skip
        go_wp2_with (at_builtin; refine wpList_app _ rfl (.tmp 37) (.tmp 38) 22 rfl w1.heap.size 9 i0 (.string ⟨#[]⟩) 1 16 Try.underlying22 hi hz0 hz1 hz2 rfl (by decide) _ R.length _ rfl (HQ2.out.alloc _).own _ 1 _ [.string ⟨#[46, 46]⟩] rfl ((rdS_lit [⟨#[46, 46]⟩] _ rfl _ _ rfl rfl (by decide)).1) (by simp [Value.oneCell']) (by omega) (by unfold maxLen; omega) (by simp; omega) ?_; intro v2 w3 own2 hg2 _)
        have HQ3 := Lib.hid (PS.app (R2 := R ++ [⟨#[46, 46]⟩]) (HQ2.out.alloc _) own2 (by simp) (by simp) hg2)
        clear own2 hg2
        go_roundw
        case rel => exact ⟨k + 1, R ++ [⟨#[46, 46]⟩], by omega, by go_num, by simp; omega, fun x hx => by
          rcases List.mem_append.1 hx with h | h
          · exact HA.out x h
          · simp only [List.mem_cons, List.not_mem_nil, or_false] at h
            subst h; decide, HQ3.out⟩
        case measure => simp [intOf]; omega
      · skip
        go_wp2_with (at_builtin; refine wpList_app _ rfl (.tmp 42) (.tmp 47) 22 rfl w1.heap.size 9 i0 (.string ⟨#[]⟩) 1 16 Try.underlying22 hi hz0 hz1 hz2 rfl (by decide) _ R.length _ rfl (HQ2.out.alloc _).own _ 2 _ [.string ⟨#[46, 46]⟩, .string y] rfl ((rdS_lit [⟨#[46, 46]⟩, y] _ rfl _ _ rfl rfl (by simp [maxLen])).1) (by simp [Value.oneCell']) (by omega) (by unfold maxLen; omega) (by simp; omega) ?_; intro v2 w3 own2 hg2 _)
        have HQ3 := Lib.hid (PS.app (R2 := R ++ [⟨#[46, 46]⟩, y]) (HQ2.out.alloc _) own2 (by simp) (by simp) hg2)
        clear own2 hg2
        go_roundw
        case rel => exact ⟨k + 1, R ++ [⟨#[46, 46]⟩, y], by omega, by go_num, by simp; omega, fun x hx => by
          rcases List.mem_append.1 hx with h | h
          · exact HA.out x h
          · simp only [List.mem_cons, List.not_mem_nil, or_false] at h
            rcases h with rfl | rfl; · decide
            · exact hy16, HQ3.out⟩
        case measure => simp [intOf]; omega
      · have f0 : (x == 0) = false := by rw [beq_eq_false_iff_ne]; exact n0
        have f1 : (x == 1) = false := by rw [beq_eq_false_iff_ne]; exact n1
        have f2 : (x == 2) = false := by rw [beq_eq_false_iff_ne]; exact n2
        go_wp2_with (at_builtin; refine wpList_app _ rfl (.tmp 23) (.tmp 28) 22 rfl w1.heap.size 9 i0 (.string ⟨#[]⟩) 1 16 Try.underlying22 hi hz0 hz1 hz2 rfl (by decide) _ R.length _ rfl (HQ2.out.alloc _).own _ 1 _ [.string y] rfl ((rdS_lit [y] _ rfl _ _ rfl rfl (by simp [maxLen])).1) (by simp [Value.oneCell']) (by omega) (by unfold maxLen; omega) (by simp; omega) ?_; intro v2 w3 own2 hg2 _)
        have HQ3 := Lib.hid (PS.app (R2 := R ++ [y]) (HQ2.out.alloc _) own2 (by simp) (by simp) hg2)
        clear own2 hg2
        go_roundw
        case rel => exact ⟨k + 1, R ++ [y], by omega, by go_num, by simp; omega, fun x hx => by
          rcases List.mem_append.1 hx with h | h
          · exact HA.out x h
          · simp only [List.mem_cons, List.not_mem_nil, or_false] at h
            subst h; exact hy16, HQ3.out⟩
        case measure => simp [intOf]; omega
    · have hkl : k = L.length := by omega
      have hRl : R.length ≤ 32 := by omega
      go_wp2_with fail
      refine (l1Once_any b b v l 6 _ HQ.out.cur (by omega) (by omega)).mono ?_
      rintro e w2 ⟨⟨x, rfl⟩, hs2, hz2', hc2⟩
      have HQ2 := Lib.hid (HQ.out.step hs2 hc2)
      have hlo := HQ2.out.hsz
      clear hs2 hc2 hz2' HQ
      cases x with
      | false =>
        have htt : R.length + total R ≤ 4096 := by
          have := total_leN 16 R HA.out
          omega
        have hjs := joinP_size R
        go_wp2_with fail
        refine (specJoinPath_any _ R _ _ (own_strs HQ2.out.own) (by omega)).mono ?_
        rintro e w3 ⟨rfl, rfl⟩
        go_wp2
        go_ret
        exact ⟨⟨_, rfl, by omega⟩, HQ2.out.go, HQ2.out.cur⟩
      | true =>
        go_wp2_with fail
        refine (l1Str_any b w2.heap.size (w2.heap.size + 1) v _ l xsPat _ (HQ2.out.cur.alloc _) (rdS_lit xsPat _ rfl _ _ rfl rfl (by decide)) HQ2.out.cur.lt (by decide) (by decide)).mono ?_
        rintro e w3 ⟨⟨y, hy, rfl⟩, hs3, hz3, hc3⟩
        have hy2 := Lib.hid (xsPat_all y hy)
        have HQ3 := Lib.hid ((HQ2.out.alloc _).step hs3 hc3)
        have hlo3 := HQ3.out.hsz
        clear hs3 hc3 hz3 hy HQ2
        go_wp2_with (at_builtin; refine wpList_app _ rfl (.tmp 51) (.tmp 55) 22 rfl w1.heap.size 9 i0 (.string ⟨#[]⟩) 1 16 Try.underlying22 hi hz0 hz1 hz2 rfl (by decide) _ R.length _ rfl (HQ3.out.alloc _).own _ 1 _ [.string y] rfl (sl_str_one rfl) (by simp [Value.oneCell']) (by omega) (by unfold maxLen; omega) (by simp; omega) ?_; intro v2 w4 own2 hg2 _)
        have HQ4 := Lib.hid (PS.app (R2 := R ++ [y]) (HQ3.out.alloc _) own2 (by simp) (by simp) hg2)
        have htt : (R ++ [y]).length + total (R ++ [y]) ≤ 4096 := by
          have := total_leN 16 (R ++ [y]) (fun x hx => by
            rcases List.mem_append.1 hx with h | h
            · exact HA.out x h
            · simp only [List.mem_singleton] at h
              subst h
              exact hy2.out)
          simp only [List.length_append, List.length_singleton] at this ⊢
          omega
        have HTT := Lib.hid htt
        have hjs := Lib.hid (joinP_size (R ++ [y]))
        have hstr := own_strs HQ4.out.own
        clear own2 hg2 htt
        refine (specJoinPath_any _ (R ++ [y]) _ _ hstr (by have := HTT.out; omega)).mono ?_
        rintro e w3 ⟨rfl, rfl⟩
        go_wp2
        go_ret
        exact ⟨⟨_, rfl, by have := HTT.out; have := hjs.out; omega⟩, HQ4.out.go, HQ4.out.cur⟩
end Go.Proofs.Ytglminmoglncpaa
