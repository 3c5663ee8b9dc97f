/- The cursor's block: what it keeps. Conditions: as Cur's. -/
import Derived.Test.YtopplnfjdgoaaaaDoorCur
import Derived.WalkSpells
import Derived.WalkLawsBesides
import Derived.BigQuiet
import Derived.Deep.QuietTactic
import Derived.Deep.RegionHeld3
namespace Go.Proofs.YtopplnfjdgoaaaaDoor
open Go.RowKit
theorem own_step {b base : Nat} {w w' : World} {e : TypeId} {size : Nat} {v : Value} {n : Nat} {xs : List Value} (h : w.ownsRow base e size v n xs) (hs : CurStep b w w') (hb : b < base) : w'.ownsRow base e size v n xs := by
  refine ⟨h.1, ?_⟩
  rcases h.2 with hn | ⟨g, cap, cur, rfl, hbb, hg, rest⟩
  · exact .inl hn
  · exact .inr ⟨g, cap, cur, rfl, hbb, by rw [hs.1.block g (Array.getElem?_eq_some_iff.1 hg).1 (fun e => by injection e; omega)]; exact hg, rest⟩
theorem below_cstep {b B : Nat} {a w w' : World} (h : Below B a w) (hs : CurStep b w w') (hB : B ≤ w.heap.size) (hb : B ≤ b) : Below B a w' :=
  h.grown hs.1 hB (fun k e => by injection e; omega)
theorem CurAt.grown {w w' : World} {b n : Nat} {v : Value} (h : CurAt w b v n) (hb : Below (b + 1) w w') : CurAt w' b v n := by
  obtain ⟨c0, ⟨i, hi, c1⟩, ⟨hh, c2⟩, f1, f2⟩ := h
  exact ⟨(hb.cell (p := ⟨b, 0, none⟩) (Nat.lt_succ_self b)).trans c0, ⟨i, hi, (hb.cell (p := ⟨b, 1, none⟩) (Nat.lt_succ_self b)).trans c1⟩, ⟨hh, (hb.cell (p := ⟨b, 2, none⟩) (Nat.lt_succ_self b)).trans c2⟩,
    (hb.frozen (p := ⟨b, 1, none⟩) (Nat.lt_succ_self b)).trans f1, (hb.frozen (p := ⟨b, 2, none⟩) (Nat.lt_succ_self b)).trans f2⟩
set_option maxHeartbeats 400000 in
theorem big_any (v : Value) (l : List UInt8) (B : Nat) (w : World) (h : SlB w B v l) :
    Calls Tryd.prog 13 #[v] w fun e w' => e = .returned (.bool (decide (1048576 < (l.length : Int)))) ∧ w = w' := by
  obtain ⟨A, c, rfl, hc, hm, hcell⟩ := h.open_
  unfold maxLen at hm
  clear h hcell
  go_enter Tryd.func13, Tryd.ntmps13
  go_wp2
  go_ret
  exact ⟨rfl, rfl⟩
theorem cur_new {w : World} {v : Value} {x : Int} {t : TypeId} {n : Nat} : CurAt (w.alloc (.cells #[v, .int .i64 0, .int .i64 x] t)) w.heap.size v n :=
  ⟨by simp [go_sem], ⟨0, Nat.zero_le _, by simp [go_sem]⟩, ⟨x, by simp [go_sem]⟩, by simp [go_sem], by simp [go_sem]⟩
set_option maxHeartbeats 400000 in
theorem sameBytes_any (v v' : Value) (l l' : List UInt8) (B B' : Nat) (w : World) (h : SlB w B v l) (h' : SlB w B' v' l') :
    Calls Tryd.prog 18 #[v, v'] w (Quiet w (.bool (l == l'))) := by
  obtain ⟨A, c, rfl, hc, hm, hcell⟩ := h.open_
  obtain ⟨A', c', rfl, hc', hm', hcell'⟩ := h'.open_
  unfold maxLen at hm hm'
  clear h h'
  by_cases hne : l.length = l'.length
  · have HE := Lib.hid hne
    have hb : ((l.length : Int) == (l'.length : Int)) = true := by rw [hne]; simp
    have hlen1 : l.length ≤ l'.length := by omega
    have hlen2 : l'.length ≤ l.length := by omega
    clear hne
    go_enter Tryd.func18, Tryd.ntmps18
    go_wp2
    go_loopw [5] (fun i wr => ∃ k n : Nat, k ≤ l.length ∧ i = .int .i64 k ∧ wr = w.drewN n ∧ l.take k = l'.take k) (fun i _ => l.length - (intOf i).toNat)
    case atStart => exact ⟨0, 0, Nat.zero_le _, rfl, rfl, rfl⟩
    case round =>
      obtain ⟨k, n, hk, rfl, rfl, ht⟩ := hrel
      have HT := Lib.hid ht
      clear ht
      by_cases hlt : k < l.length
      · obtain ⟨b, off, rfl, _, hc0⟩ := hcell k hlt
        obtain ⟨b', off', rfl, _, hc0'⟩ := hcell' k (by omega)
        have hlt' : k < l'.length := by omega
        clear hcell hcell'
        by_cases he : l[k] = l'[k]
        · have HX := Lib.hid (take_next hlt (by omega) HT.out he)
          have hbe : ((l[k].toNat : Int) == (l'[k].toNat : Int)) = true := by rw [he]; simp
          clear he
          go_wp2
          go_quiet (fail)
          go_wp2
          go_roundw
          case rel => exact ⟨k + 1, _, by omega, by go_num, rfl, HX.out⟩
          case measure => simp [intOf]; omega
        · have hbe : ((l[k].toNat : Int) == (l'[k].toNat : Int)) = false := by
            rw [beq_eq_false_iff_ne]; intro hx; exact he (UInt8.toNat_inj.1 (by omega))
          have HX := Lib.hid (show (l == l') = false by
            rw [beq_eq_false_iff_ne]; rintro rfl; exact he rfl)
          clear he
          go_wp2
          go_quiet (fail)
          go_wp2
          go_ret
          exact ⟨ret_bool HX.out.symm, _, World.drewN_drewN _ _ _⟩
      · have HX := Lib.hid (show (l == l') = true by
          have h1 := HT.out
          have h2 := HE.out
          rw [List.take_of_length_le (by omega), List.take_of_length_le (by omega)] at h1
          rw [h1]; simp)
        clear hcell hcell'
        go_wp2
        go_ret
        exact ⟨ret_bool HX.out.symm, _, rfl⟩
  · have hb : ((l.length : Int) == (l'.length : Int)) = false := by rw [beq_eq_false_iff_ne]; omega
    have HX := Lib.hid (show (l == l') = false by rw [beq_eq_false_iff_ne]; rintro rfl; exact hne rfl)
    clear hne hcell hcell'
    go_enter Tryd.func18, Tryd.ntmps18
    go_wp2
    go_ret
    exact ⟨ret_bool HX.out.symm, 0, rfl⟩

end Go.Proofs.YtopplnfjdgoaaaaDoor
