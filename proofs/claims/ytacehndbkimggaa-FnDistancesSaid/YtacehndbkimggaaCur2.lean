/- The walks of l1Bytes, at, sameBytes, big, DrawFormatHex and DrawDistance. Conditions: slices read as lists. -/
import Derived.Test.YtacehndbkimggaaCur
import Derived.Test.YtacehndbkimggaaMutB
import Derived.WalkSpells
import Derived.WalkLawsBesides
import Derived.BigQuiet
import Derived.Deep.QuietTactic
import Derived.Deep.RegionHeld3
namespace Go.Proofs.Ytacehndbkimggaa
open Go.RowKit
theorem own_step {b base : Nat} {w w' : World} {e : TypeId} {size : Nat} {v : Value} {n : Nat} {xs : List Value} (h : w.ownsRow base e size v n xs) (hs : CurStep b w w') (hb : b < base) : w'.ownsRow base e size v n xs := by
  refine ⟨h.1, ?_⟩
  rcases h.2 with hn | ⟨g, cap, cur, rfl, hbb, hg, rest⟩
  · exact .inl hn
  · exact .inr ⟨g, cap, cur, rfl, hbb, by rw [hs.1.block g (Array.getElem?_eq_some_iff.1 hg).1 (fun e => by injection e; omega)]; exact hg, rest⟩
theorem below_cstep {b B : Nat} {a w w' : World} (h : Below B a w) (hs : CurStep b w w') (hB : B ≤ w.heap.size) (hb : B ≤ b) : Below B a w' :=
  h.grown hs.1 hB (fun k e => by injection e; omega)
theorem CurAt.grown {w w' : World} {b n : Nat} {v : Value} (h : CurAt w b v n) (hb : Below (b + 1) w w') : CurAt w' b v n := by
  obtain ⟨c0, ⟨i, hi, c1⟩, ⟨hh, c2⟩, f1, f2⟩ := h
  exact ⟨(hb.cell (p := ⟨b, 0, none⟩) (Nat.lt_succ_self b)).trans c0, ⟨i, hi, (hb.cell (p := ⟨b, 1, none⟩) (Nat.lt_succ_self b)).trans c1⟩, ⟨hh, (hb.cell (p := ⟨b, 2, none⟩) (Nat.lt_succ_self b)).trans c2⟩,
    (hb.frozen (p := ⟨b, 1, none⟩) (Nat.lt_succ_self b)).trans f1, (hb.frozen (p := ⟨b, 2, none⟩) (Nat.lt_succ_self b)).trans f2⟩
set_option maxHeartbeats 1000000 in
set_option maxRecDepth 100000 in
theorem l1Bytes_any (b B : Nat) (v : Value) (l : List UInt8) (m : Int) (w : World) (h : SlB w B v l) (hB : B ≤ b) (hc : CurAt w b v l.length) (hm : 0 ≤ m) (hm2 : m ≤ 1000) :
    Calls Try.prog 47 #[.pointer (some ⟨b, 0, none⟩), .int .i64 m] w fun e w' => ∃ u xs, e = .returned u ∧ xs.length = m.toNat ∧ w'.ownsRow w.heap.size 5 1 u xs.length (u8s xs) ∧ Below b w w' := by
  obtain ⟨i0, hi, hz0, hz1, hz2⟩ := info_parts Try.info_u8
  obtain ⟨M, rfl⟩ := Int.eq_ofNat_of_zero_le hm
  have hbw := hc.lt
  have H := Lib.hid h
  have HC := Lib.hid hc
  clear h hc
  go_enter Try.func47, Try.ntmps47
  go_wp2
  go_loopw [5, 6] (fun o i wr => ∃ xs : List UInt8, xs.length ≤ M ∧ i = .int .i64 xs.length ∧ wr.ownsRow w.heap.size 5 1 o xs.length (u8s xs) ∧ Below b w wr ∧ CurAt wr b v l.length ∧ SlB wr B v l) (fun _ i _ => M - (intOf i).toNat)
  case atStart => exact ⟨[], Nat.zero_le _, rfl, own_empty _ _ _, (Below.refl _ _).alloc (by omega) _, HC.out.grown ((Below.refl _ _).alloc (by omega) _), H.out.below ((Below.refl _ _).alloc (by omega) _)⟩
  case round =>
    obtain ⟨xs, hk, rfl, hown, hb, hcu, hsl⟩ := hrel
    by_cases hlt : xs.length < M
    · have hlt2 : (xs.length : Int) < M := by omega
      have hsz := hb.size
      have hOW := Lib.hid hown
      have hBB := Lib.hid hb
      have hCU := Lib.hid hcu
      have hSL := Lib.hid hsl
      have hbr := hcu.lt
      clear hown hb hcu hsl
      go_wp2_with (first | (go_at_call 53; refine (l1Byte_any b B v l _ hSL.out hB hCU.out).mono ?_; rintro e w1 ⟨⟨x, rfl, hx0, hx1⟩, hs, hcu⟩; have hS := Lib.hid (own_step hOW.out hs (by omega)); have hC1 := Lib.hid hcu; have hL1 := Lib.hid (hSL.out.step hs hB hbr); have hB1 := Lib.hid (below_cstep hBB.out hs (by omega) (Nat.le_refl _)); have hsz1 := Lib.hid hs.2; clear hs hcu) | (at_builtin; refine wpList_app _ rfl (.tmp 13) (.tmp 17) 22 rfl w.heap.size 5 i0 (.int .u8 0) 1 1 Try.underlying22 hi hz0 hz1 hz2 rfl (by decide) _ xs.length _ rfl (own_below hS.out ((Below.refl _ _).alloc (Nat.le_refl _) _) (Nat.le_refl _)) _ 1 _ (u8s [UInt8.ofNat x.toNat]) rfl (slb_one hx0 hx1 rfl) (u8s_one _) (by omega) (by unfold maxLen; omega) (by have := hsz1.out; simp; omega) ?_; intro v2 w2 own2 hg2 _))
      have ha : Below w1.heap.size w1 (w1.alloc (.cells #[.int .u8 x] 5)) := (Below.refl _ _).alloc (Nat.le_refl _) _
      have ho2 := own_below hS.out ha (Nat.le_refl _)
      have hb2 : Below (b + 1) w1 w2 := below_app hg2 ho2 (by omega) (by have := hsz1.out; simp; omega) (ha.mono (by have := hsz1.out; omega))
      rw [← u8s_append] at own2
      have H2 := Lib.hid (And.intro own2 (And.intro (hB1.out.trans (hb2.mono (by omega))) (And.intro (hC1.out.grown hb2) (hL1.out.below (hb2.mono (by omega))))))
      clear own2 hg2 ho2 hb2 ha hS hC1 hL1 hB1 hOW hBB hCU hSL
      go_roundw
      case rel => exact ⟨xs ++ [UInt8.ofNat x.toNat], by simp; omega, by simp, by simpa using H2.out.1, H2.out.2.1, H2.out.2.2.1, H2.out.2.2.2⟩
      case measure => simp [intOf]; omega
    · have hM : xs.length = M := by omega
      have H2 := Lib.hid (And.intro hown hb)
      clear hown hb hcu hsl
      go_wp2
      go_ret
      exact ⟨_, xs, rfl, by omega, H2.out.1, H2.out.2⟩
set_option maxHeartbeats 400000 in
theorem sameBytes_any (v v' : Value) (l l' : List UInt8) (B B' : Nat) (w : World) (h : SlB w B v l) (h' : SlB w B' v' l') :
    Calls Try.prog 29 #[v, v'] w (Quiet w (.bool (l == l'))) := by
  obtain ⟨A, c, rfl, hc, hm, hcell⟩ := h.open_
  obtain ⟨A', c', rfl, hc', hm', hcell'⟩ := h'.open_
  unfold maxLen at hm hm'
  clear h h'
  by_cases hne : l.length = l'.length
  · have HE := Lib.hid hne
    have hb : ((l.length : Int) == (l'.length : Int)) = true := by rw [hne]; simp
    have hlen1 : l.length ≤ l'.length := by omega
    have hlen2 : l'.length ≤ l.length := by omega
    clear hne
    go_enter Try.func29, Try.ntmps29
    go_wp2
    go_loopw [5] (fun i wr => ∃ k n : Nat, k ≤ l.length ∧ i = .int .i64 k ∧ wr = w.drewN n ∧ l.take k = l'.take k) (fun i _ => l.length - (intOf i).toNat)
    case atStart => exact ⟨0, 0, Nat.zero_le _, rfl, rfl, rfl⟩
    case round =>
      obtain ⟨k, n, hk, rfl, rfl, ht⟩ := hrel
      have HT := Lib.hid ht
      clear ht
      by_cases hlt : k < l.length
      · obtain ⟨b, off, rfl, _, hc0⟩ := hcell k hlt
        obtain ⟨b', off', rfl, _, hc0'⟩ := hcell' k (by omega)
        have hlt' : k < l'.length := by omega
        clear hcell hcell'
        by_cases he : l[k] = l'[k]
        · have HX := Lib.hid (take_next hlt (by omega) HT.out he)
          have hbe : ((l[k].toNat : Int) == (l'[k].toNat : Int)) = true := by rw [he]; simp
          clear he
          go_wp2
          go_quiet (fail)
          go_wp2
          go_roundw
          case rel => exact ⟨k + 1, _, by omega, by go_num, rfl, HX.out⟩
          case measure => simp [intOf]; omega
        · have hbe : ((l[k].toNat : Int) == (l'[k].toNat : Int)) = false := by
            rw [beq_eq_false_iff_ne]; intro hx; exact he (UInt8.toNat_inj.1 (by omega))
          have HX := Lib.hid (show (l == l') = false by
            rw [beq_eq_false_iff_ne]; rintro rfl; exact he rfl)
          clear he
          go_wp2
          go_quiet (fail)
          go_wp2
          go_ret
          exact ⟨ret_bool HX.out.symm, _, World.drewN_drewN _ _ _⟩
      · have HX := Lib.hid (show (l == l') = true by
          have h1 := HT.out
          have h2 := HE.out
          rw [List.take_of_length_le (by omega), List.take_of_length_le (by omega)] at h1
          rw [h1]; simp)
        clear hcell hcell'
        go_wp2
        go_ret
        exact ⟨ret_bool HX.out.symm, _, rfl⟩
  · have hb : ((l.length : Int) == (l'.length : Int)) = false := by rw [beq_eq_false_iff_ne]; omega
    have HX := Lib.hid (show (l == l') = false by rw [beq_eq_false_iff_ne]; rintro rfl; exact hne rfl)
    clear hne hcell hcell'
    go_enter Try.func29, Try.ntmps29
    go_wp2
    go_ret
    exact ⟨ret_bool HX.out.symm, 0, rfl⟩

set_option maxHeartbeats 400000 in
theorem big_any (v : Value) (l : List UInt8) (B : Nat) (w : World) (h : SlB w B v l) :
    Calls Try.prog 26 #[v] w fun e w' => e = .returned (.bool (decide (1048576 < (l.length : Int)))) ∧ w = w' := by
  obtain ⟨A, c, rfl, hc, hm, hcell⟩ := h.open_
  unfold maxLen at hm
  clear h hcell
  go_enter Try.func26, Try.ntmps26
  go_wp2
  go_ret
  exact ⟨rfl, rfl⟩
/-- A byte of the input, or a substitute. -/
def atN (l : List UInt8) (i : Nat) : Int := if h : i < l.length then l[i].toNat else ((i * 31 + l.length * 7 : Nat) : Int) % 256
theorem atN_bd (l : List UInt8) (i : Nat) : 0 ≤ atN l i ∧ atN l i ≤ 255 := by
  unfold atN
  split
  · rename_i h
    have := UInt8.toNat_lt l[i]
    omega
  · omega
set_option maxHeartbeats 400000 in
theorem at_any (v : Value) (l : List UInt8) (i : Nat) (B : Nat) (w : World) (h : SlB w B v l) (hl : l.length ≤ 1048576) (hi : i ≤ 1000) :
    Calls Try.prog 28 #[v, .int .i64 i] w fun e w' => e = .returned (.int .i64 (atN l i)) ∧ w = w' := by
  obtain ⟨A, c, rfl, hc, hm, hcell⟩ := h.open_
  unfold maxLen at hm
  clear h
  by_cases hlt : i < l.length
  · obtain ⟨b, off, rfl, _, hc0⟩ := hcell i hlt
    have HX := Lib.hid (show atN l i = l[i].toNat by unfold atN; rw [dif_pos hlt])
    have hb : (l[i].toNat : Int) < 256 := by have := UInt8.toNat_lt l[i]; omega
    clear hcell
    go_enter Try.func28, Try.ntmps28
    go_wp2
    go_ret
    exact ⟨ret_int HX.out.symm, rfl⟩
  · have HX := Lib.hid (show atN l i = ((i : Int) * 31 + (l.length : Int) * 7).tmod 256 by
      unfold atN; rw [dif_neg hlt, Int.tmod_eq_emod_of_nonneg (by omega)]; rfl)
    have HY := Lib.hid (show ((i : Int) * 31 + (l.length : Int) * 7).tmod 256 = ((i : Int) * 31 + (l.length : Int) * 7) % 256 from Int.tmod_eq_emod_of_nonneg (by omega))
    clear hcell
    go_enter Try.func28, Try.ntmps28
    go_wp2
    go_ret
    exact ⟨ret_int (by rw [HX.out, HY.out]), rfl⟩
theorem cur_new {w : World} {v : Value} {x : Int} {t : TypeId} {n : Nat} : CurAt (w.alloc (.cells #[v, .int .i64 0, .int .i64 x] t)) w.heap.size v n :=
  ⟨by simp [go_sem], ⟨0, Nat.zero_le _, by simp [go_sem]⟩, ⟨x, by simp [go_sem]⟩, by simp [go_sem], by simp [go_sem]⟩
set_option maxHeartbeats 1000000 in
theorem drawHex_any (v : Value) (l : List UInt8) (w : World) (h : SlB w w.heap.size v l) (hl : l.length ≤ 1048576) :
    Calls Try.prog 31 #[v] w fun e w' => ∃ u xs, e = .returned u ∧ xs.length ≤ 5 ∧ w'.ownsRow w.heap.size 5 1 u xs.length (u8s xs) ∧ Below w.heap.size w w' := by
  go_enter Try.func31, Try.ntmps31
  go_wp2_with fail
  refine (l1New_any v l _ w h hl).mono ?_
  rintro e w1 ⟨rfl, x, rfl⟩
  have ha : Below w.heap.size w (w.alloc (.cells #[v, .int .i64 0, .int .i64 x] 61)) := (Below.refl _ _).alloc (Nat.le_refl _) _
  have hc : CurAt (w.alloc (.cells #[v, .int .i64 0, .int .i64 x] 61)) w.heap.size v l.length := cur_new
  have hs := h.below ha
  have hz : w.heap.size + 1 ≤ (w.alloc (.cells #[v, .int .i64 0, .int .i64 x] 61)).heap.size := by simp
  generalize w.alloc (.cells #[v, .int .i64 0, .int .i64 x] 61) = W at ha hc hs hz
  have ha := Lib.hid ha
  have hc := Lib.hid hc
  have hs := Lib.hid hs
  clear h
  go_wp2_with fail
  refine (l1Below_any _ _ v l 6 W hs.out (Nat.le_refl _) hc.out (by omega) (by omega)).mono ?_
  rintro e w2 ⟨⟨m, rfl, hm0, hm1⟩, hst, hcu⟩
  have hs2 := Lib.hid (hs.out.step hst (Nat.le_refl _) (by omega))
  have hb2 := Lib.hid (below_cstep ha.out hst (by omega) (Nat.le_refl _))
  have hsz := hst.2
  have hcu := Lib.hid hcu
  clear hst
  go_wp2_with fail
  refine (l1Bytes_any _ _ v l m w2 hs2.out (Nat.le_refl _) hcu.out hm0 (by omega)).mono ?_
  rintro e w3 ⟨u, xs, rfl, hlen, hown, hb3⟩
  have H := Lib.hid (And.intro (own_base (base' := w.heap.size) hown (by omega)) (hb2.out.trans hb3))
  clear hown hb3
  go_wp2
  go_ret
  exact ⟨u, xs, rfl, by omega, H.out.1, H.out.2⟩

theorem mbL_len2 (l : List UInt8) (s c : Int) : (mbL l s c).length ≤ l.length + 20 := by
  have h1 := mbIt_len s l (mbN l c)
  have h2 : mbN l c ≤ 20 := by unfold mbN; split <;> omega
  unfold mbL; omega
set_option maxHeartbeats 2000000 in
set_option maxRecDepth 100000 in
theorem drawDist_any (v : Value) (l : List UInt8) (w : World) (h : SlB w w.heap.size v l) (hl : l.length ≤ 1048576) :
    Calls Try.prog 27 #[v] w fun e w' => ∃ u x xs ys, e = .returned (.tuple #[u, x]) ∧ xs.length ≤ 6 ∧ ys.length ≤ 26 ∧ SlB w' w'.heap.size u xs ∧ SlB w' w'.heap.size x ys ∧ Below w.heap.size w w' := by
  obtain ⟨i0, hi, hz0, hz1, hz2⟩ := info_parts Try.info_u8
  go_enter Try.func27, Try.ntmps27
  go_wp2_with fail
  refine (l1New_any v l _ w h hl).mono ?_
  rintro e w1 ⟨rfl, x, rfl⟩
  have ha : Below w.heap.size w (w.alloc (.cells #[v, .int .i64 0, .int .i64 x] 61)) := (Below.refl _ _).alloc (Nat.le_refl _) _
  have hc : CurAt (w.alloc (.cells #[v, .int .i64 0, .int .i64 x] 61)) w.heap.size v l.length := cur_new
  have hs := h.below ha
  have hz : w.heap.size + 1 ≤ (w.alloc (.cells #[v, .int .i64 0, .int .i64 x] 61)).heap.size := by simp
  generalize w.alloc (.cells #[v, .int .i64 0, .int .i64 x] 61) = W at ha hc hs hz
  have ha := Lib.hid ha
  have hc := Lib.hid hc
  have hs := Lib.hid hs
  clear h
  go_wp2_with fail
  have hc' := Lib.hid (hc.out.grown (w' := W.alloc (.cells #[] 5)) ((Below.refl _ _).alloc (by omega) _))
  have hs' := Lib.hid (hs.out.below ((Below.refl _ _).alloc (by omega) (.cells #[] 5)))
  refine (l1Below_any _ _ v l 7 _ hs'.out (Nat.le_refl _) hc'.out (by omega) (by omega)).mono ?_
  rintro e w2 ⟨⟨m, rfl, hm0, hm1⟩, hst, hcu⟩
  obtain ⟨M, rfl⟩ := Int.eq_ofNat_of_zero_le hm0
  have hs2 := Lib.hid (hs'.out.step hst (Nat.le_refl _) (by simp; omega))
  have hb2 := Lib.hid (below_cstep (ha.out.alloc (by omega) (.cells #[] 5)) hst (by simp; omega) (Nat.le_refl _))
  have hsz := hst.2
  simp only [World.size_alloc] at hsz
  have hown := Lib.hid (own_step (own_base (own_empty W 5 1) (base' := w.heap.size + 1) (by omega)) hst (by omega))
  have hcu := Lib.hid hcu
  clear hst hc' hs'
  go_wp2
  go_loopw [5, 6] (fun o i wr => ∃ (xs : List UInt8) (k : Nat), i = .int .i64 k ∧ xs.length + k ≤ 6 ∧ wr.ownsRow (w.heap.size + 1) 5 1 o xs.length (u8s xs) ∧ Below w.heap.size w wr ∧ CurAt wr w.heap.size v l.length ∧ SlB wr w.heap.size v l ∧ w.heap.size + 1 ≤ wr.heap.size) (fun _ i _ => (intOf i).toNat)
  case atStart => exact ⟨[], M, rfl, by simp; omega, hown.out, hb2.out, hcu.out, hs2.out, by omega⟩
  case round =>
    clear hown hb2 hcu hs2
    obtain ⟨xs, k, rfl, hk, hown, hb, hcu, hsl, hsr⟩ := hrel
    have hOW := Lib.hid hown
    have hBB := Lib.hid hb
    have hCU := Lib.hid hcu
    have hSL := Lib.hid hsl
    have hbr := hcu.lt
    clear hown hb hcu hsl
    by_cases hlt : (0 : Int) < k
    · go_wp2_with (first | (go_at_call 46; refine (l1Below_any w.heap.size w.heap.size v l 3 _ hSL.out (Nat.le_refl _) hCU.out (by omega) (by omega)).mono ?_; rintro e w1 ⟨⟨x, rfl, hx0, hx1⟩, hs, hcu⟩; have hS := Lib.hid (own_step hOW.out hs (by omega)); have hC1 := Lib.hid hcu; have hL1 := Lib.hid (hSL.out.step hs (Nat.le_refl _) hbr); have hB1 := Lib.hid (below_cstep hBB.out hs (by omega) (Nat.le_refl _)); have hsz1 := Lib.hid hs.2; clear hs hcu; have hx2 : x ≤ 255 := by omega) | (at_builtin; refine wpList_app _ rfl (.tmp 16) (.tmp 20) 22 rfl (w.heap.size + 1) 5 i0 (.int .u8 0) 1 1 Try.underlying22 hi hz0 hz1 hz2 rfl (by decide) _ xs.length _ rfl (own_below hS.out ((Below.refl _ _).alloc (Nat.le_refl _) _) (Nat.le_refl _)) _ 1 _ (u8s [UInt8.ofNat x.toNat]) rfl (slb_one hx0 hx2 rfl) (u8s_one _) (by omega) (by unfold maxLen; omega) (by have := hsz1.out; simp; omega) ?_; intro v2 w2 own2 hg2 _))
      have ha : Below w1.heap.size w1 (w1.alloc (.cells #[.int .u8 x] 5)) := (Below.refl _ _).alloc (Nat.le_refl _) _
      have ho2 := own_below hS.out ha (Nat.le_refl _)
      have hb2 : Below (w.heap.size + 1) w1 w2 := below_app hg2 ho2 (by omega) (by have := hsz1.out; simp; omega) (ha.mono (by have := hsz1.out; omega))
      rw [← u8s_append] at own2
      have H2 := Lib.hid (And.intro own2 (And.intro (hB1.out.trans (hb2.mono (by omega))) (And.intro (hC1.out.grown hb2) (And.intro (hL1.out.below (hb2.mono (by omega))) (show w.heap.size + 1 ≤ w2.heap.size by have := hb2.size; have := hsz1.out; omega)))))
      clear own2 hg2 ho2 hb2 ha hS hC1 hL1 hB1 hOW hBB hCU hSL
      obtain ⟨k, rfl⟩ : ∃ j, k = j + 1 := ⟨k - 1, by omega⟩
      go_roundw
      case rel => exact ⟨xs ++ [UInt8.ofNat x.toNat], k, by go_num, by simp; omega, by simpa using H2.out.1, H2.out.2.1, H2.out.2.2.1, H2.out.2.2.2.1, H2.out.2.2.2.2⟩
      case measure => simp [intOf]
    · go_wp2_with fail
      refine (l1Below_any w.heap.size w.heap.size v l 999 _ hSL.out (Nat.le_refl _) hCU.out (by omega) (by omega)).mono ?_
      rintro e w1 ⟨⟨x, rfl, hx0, hx1⟩, hs, hcu⟩
      have hS := Lib.hid (own_step hOW.out hs (by omega))
      have hC1 := Lib.hid hcu
      have hL1 := Lib.hid (hSL.out.step hs (Nat.le_refl _) hbr)
      have hB1 := Lib.hid (below_cstep hBB.out hs (by omega) (Nat.le_refl _))
      have hsz1 := Lib.hid hs.2
      clear hs hcu hOW hBB hCU hSL
      go_wp2_with fail
      refine (l1Below_any w.heap.size w.heap.size v l 5 _ hL1.out (Nat.le_refl _) hC1.out (by omega) (by omega)).mono ?_
      rintro e w4 ⟨⟨y, rfl, hy0, hy1⟩, hs, hcu⟩
      have hS4 := Lib.hid (own_step hS.out hs (by omega))
      have hB4 := Lib.hid (below_cstep hB1.out hs (by have := hsz1.out; omega) (Nat.le_refl _))
      have hsz4 := Lib.hid hs.2
      clear hs hcu hS hB1 hC1 hL1
      go_wp2_with fail
      refine (specMutB_any _ xs x y _ w4 (own_u8 hS4.out) (Nat.le_refl _) (by omega)).mono ?_
      rintro e w5 ⟨v5, rfl, own5, hb5⟩
      have H5 := Lib.hid (And.intro (SlB.more ((own_u8 hS4.out).below hb5) hb5.size) (And.intro (own_u8 own5) (below_step hb5 hB4.out)))
      have HL := Lib.hid (mbL_len2 xs x y)
      clear own5 hb5 hS4 hB4
      go_wp2
      go_ret2
      exact ⟨_, _, xs, mbL xs x y, rfl, by omega, by have := HL.out; omega, H5.out.1, H5.out.2.1, H5.out.2.2⟩
end Go.Proofs.Ytacehndbkimggaa
