/- The walks of the laws' helpers on []int: toIntS, eqIntS; in the words of Own. Conditions: the lists are at most 2^20 long. -/
import Derived.Test.YtkfmdkogifmfmaaDoorRows
import Derived.Test.YtkfmdkogifmfmaaDoorOwn
import Derived.WalkSpells
import Derived.WalkLawsBesides
import Derived.BigQuiet
import Derived.Deep.QuietTactic
namespace Go.Proofs.YtkfmdkogifmfmaaDoor
set_option linter.unusedSimpArgs false
set_option linter.unusedVariables false
open Go.RowKit
theorem Tryd.info_i64 : (Tryd.prog.info? 3).map (fun i => (i.zero, i.size, i.bytes)) = some (some (.int .i64 0), 1, 8) := by kernel_rfl
set_option maxHeartbeats 400000 in
theorem toIntS_any (v : Value) (l : List Int) (B : Nat) (w : World) (h : SlI w B v l) (hB : B ≤ w.heap.size) (hl : l.length ≤ 1048576) :
    Calls Tryd.prog 52 #[v] w (Fresh w 3 1 l.length (l.map (Value.int .i64))) := by
  obtain ⟨i0, hi, hz0, hz1, hz2⟩ := info_parts Tryd.info_i64
  obtain ⟨A, c, rfl, hc, hm, hcell⟩ := h.one
  unfold maxLen at hm
  have hby : i0.bytes * l.length ≤ 281474976710656 := by rw [hz2]; omega
  go_enter Tryd.func52, Tryd.ntmps52
  go_wp2_with (at_make; refine wpList_make_full _ rfl _ _ 56 rfl w.heap.size 3 i0 (.int .i64 0) 1 Tryd.underlying56 hi hz0 hz1 _ _ _ _ l.length rfl rfl rfl rfl hby (by unfold maxLen; omega) (Nat.le_refl _) ?_; intro w1 hown hg)
  have hbel : Below w.heap.size w w1 := below_grown hg (Nat.le_refl _) (by intro k hk; cases hk)
  have e0 : (madeCells (Value.cells (.int .i64 0)) (l.length * 1)).toList = filled (l.map (Value.int .i64)) (.int .i64 0) 0 := by
    rw [filled_zero, List.length_map, Nat.mul_one]
    exact toList_madeCells_one _ _
  rw [e0] at hown
  clear hg e0
  go_loopw [4] (fun i wr => ∃ k : Nat, k ≤ l.length ∧ i = .int .i64 k ∧ wr.ownsRow w.heap.size 3 1 (.slice (some ⟨w.heap.size, 0, none⟩) l.length l.length) l.length (filled (l.map (Value.int .i64)) (.int .i64 0) k) ∧ Below w.heap.size w wr) (fun i _ => l.length - (intOf i).toNat)
  case atStart => exact ⟨0, Nat.zero_le _, rfl, hown, hbel⟩
  case round =>
    obtain ⟨k, hk, rfl, hownr, hb⟩ := hrel
    by_cases hlt : k < l.length
    · obtain ⟨b, off, rfl, hbB, hc0⟩ := hcell k hlt
      have hcr : wr.cell? ⟨b, off + k, none⟩ = some (.int .i64 l[k]) := (hb.cell (p := ⟨b, off + k, none⟩) (by show b < _; omega)).trans hc0
      have hfz := hownr.frozenAt k
      have hold : ∃ u, wr.cell? ⟨w.heap.size, k, none⟩ = some u := by
        rw [hownr.cellAt k (by omega)]
        exact ⟨_, List.getElem?_eq_getElem (by rw [hownr.1]; omega)⟩
      obtain ⟨u, hu⟩ := hold
      have hst := (hownr.stored k (.int .i64 l[k])).1
      have hfs := filled_set (l.map (Value.int .i64)) (.int .i64 0) k (by simpa using hlt)
      rw [List.getElem_map] at hfs
      rw [hfs] at hst
      have hbs := hb.setCell (p := ⟨w.heap.size, k, none⟩) (Nat.le_refl _) (.int .i64 l[k])
      have HST := Lib.hid (And.intro hst hbs)
      clear hst hfs hbs hownr hb hcell hown hbel
      go_wp2
      go_roundw
      case rel => exact ⟨k + 1, by omega, by go_num, HST.out.1, HST.out.2⟩
      case measure => simp [intOf] <;> omega
    · have hkl : k = l.length := by omega
      have hall := filled_all (l.map (Value.int .i64)) (.int .i64 0)
      rw [List.length_map, ← hkl] at hall
      rw [hall] at hownr
      have H := Lib.hid (And.intro hownr hb)
      clear hall hkl hownr hb hown hbel hcell
      go_wp2
      go_ret
      exact ⟨_, rfl, H.out.1, H.out.2⟩

set_option maxHeartbeats 400000 in
theorem eqIntS_any (v v' : Value) (l l' : List Int) (B B' : Nat) (w : World) (h : SlI w B v l) (h' : SlI w B' v' l') :
    Calls Tryd.prog 55 #[v, v'] w (Quiet w (.bool (decide (l = l')))) := by
  obtain ⟨A, c, rfl, hc, hm, hcell⟩ := h.one
  obtain ⟨A', c', rfl, hc', hm', hcell'⟩ := h'.one
  unfold maxLen at hm hm'
  clear h h'
  by_cases hne : l.length = l'.length
  · have HE := Lib.hid hne
    have hb : ((l.length : Int) == (l'.length : Int)) = true := by rw [hne]; simp
    have hlen1 : l.length ≤ l'.length := by omega
    have hlen2 : l'.length ≤ l.length := by omega
    clear hne
    go_enter Tryd.func55, Tryd.ntmps55
    go_wp2
    go_loopw [5] (fun i wr => ∃ k n : Nat, k ≤ l.length ∧ i = .int .i64 k ∧ wr = w.drewN n ∧ l.take k = l'.take k) (fun i _ => l.length - (intOf i).toNat)
    case atStart => exact ⟨0, 0, Nat.zero_le _, rfl, rfl, rfl⟩
    case round =>
      obtain ⟨k, n, hk, rfl, rfl, ht⟩ := hrel
      have HT := Lib.hid ht
      clear ht
      by_cases hlt : k < l.length
      · obtain ⟨b, off, rfl, _, hc0⟩ := hcell k hlt
        obtain ⟨b', off', rfl, _, hc0'⟩ := hcell' k (by omega)
        have hlt' : k < l'.length := by omega
        clear hcell hcell'
        by_cases he : l[k] = l'[k]
        · have HX := Lib.hid (take_next hlt (by omega) HT.out he)
          have hbe : (l[k] == l'[k]) = true := beq_iff_eq.2 he
          clear he
          go_wp2
          go_quiet (fail)
          go_wp2
          go_roundw
          case rel => exact ⟨k + 1, _, by omega, by go_num, rfl, HX.out⟩
          case measure => simp [intOf]; omega
        · have hbe : (l[k] == l'[k]) = false := beq_eq_false_iff_ne.2 he
          have HX := Lib.hid (show decide (l = l') = false by
            apply decide_eq_false; rintro rfl; exact he rfl)
          clear he
          go_wp2
          go_quiet (fail)
          go_wp2
          go_ret
          exact ⟨ret_bool HX.out.symm, _, World.drewN_drewN _ _ _⟩
      · have HX := Lib.hid (show decide (l = l') = true by
          have h1 := HT.out
          have h2 := HE.out
          rw [List.take_of_length_le (by omega), List.take_of_length_le (by omega)] at h1
          exact decide_eq_true h1)
        clear hcell hcell'
        go_wp2
        go_ret
        exact ⟨ret_bool HX.out.symm, _, rfl⟩
  · have hb : ((l.length : Int) == (l'.length : Int)) = false := by rw [beq_eq_false_iff_ne]; omega
    have HX := Lib.hid (show decide (l = l') = false by apply decide_eq_false; rintro rfl; exact hne rfl)
    clear hne hcell hcell'
    go_enter Tryd.func55, Tryd.ntmps55
    go_wp2
    go_ret
    exact ⟨ret_bool HX.out.symm, 0, rfl⟩


def OwI (l : List Int) (lo hi : Nat) (w : World) (v : Value) : Prop := Row lo hi 3 1 l.length (l.map (.int .i64)) w v
theorem OwI.keep {l : List Int} {lo hi lo' hi' : Nat} {w w' : World} {v : Value} (h : OwI l lo hi w v) (ho : Out lo' hi' w w') (hd : hi ≤ lo' ∨ hi' ≤ lo) : OwI l lo hi w' v := Row.keep h ho hd
theorem OwI.sl {l : List Int} {lo hi : Nat} {w : World} {v : Value} (h : OwI l lo hi w v) : SlI w w.heap.size v l := Row.sl h
theorem toI_law {w0 w : World} {v : Value} {l : List Int} (h : SlI w0 w0.heap.size v l) (b : Below w0.heap.size w0 w) (hl : l.length ≤ 1048576) :
    Calls Tryd.prog 52 #[v] w (Made (OwI l) w) := made_of_fresh (toIntS_any v l _ w (h.below b) b.size hl)
end Go.Proofs.YtkfmdkogifmfmaaDoor
