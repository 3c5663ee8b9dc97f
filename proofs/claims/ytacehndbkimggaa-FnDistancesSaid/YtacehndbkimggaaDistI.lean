/- The walk of impl.Distance. Conditions: the slices read as lists of at most 2^21 bytes. -/
import Derived.Test.YtacehndbkimggaaRows
import Derived.Test.YtacehndbkimggaaDist
import Derived.WalkSpells
import Derived.WalkLawsBesides
import Derived.BigQuiet
import Derived.Deep.QuietTactic
import Derived.Deep.RegionHeld3
import Derived.Deep.RegionLaw
namespace Go.Proofs.Ytacehndbkimggaa
open Go.RowKit

def minAll (a : Int) (l : List Int) : Int := l.foldl min a
theorem minAll_next (a : Int) (l : List Int) (k : Nat) (h : k < l.length) : minAll a (l.take (k + 1)) = min (minAll a (l.take k)) l[k] := by
  rw [List.take_succ_eq_append_getElem h]; simp only [minAll, List.foldl_append, List.foldl_cons, List.foldl_nil]
set_option maxRecDepth 100000 in
theorem lower_any (a b : Int) (w : World) : Calls Try.prog 44 #[.int .i64 a, .int .i64 b] w fun e w' => e = .returned (.bool (decide (a < b))) ∧ w = w' := by
  go_enter Try.func44, Try.ntmps44
  go_wp2
  go_ret
  exact ⟨rfl, rfl⟩
set_option maxHeartbeats 1000000 in
set_option maxRecDepth 100000 in
theorem pickLow_any (a : Int) (l : List Int) (B : Nat) (v : Value) (w : World) (h : SlI w B v l) :
    Calls Try.prog 43 #[.func (.func 44) #[] #[], .int .i64 a, v] w fun e w' => e = .returned (.int .i64 (minAll a l)) ∧ w = w' := by
  obtain ⟨A, c, rfl, hc, hm, hcell⟩ := Sl.one h
  unfold maxLen at hm
  clear h
  go_enter Try.func43, Try.ntmps43
  go_wp2
  go_loop [1, 8, 11] (fun q _ i => ∃ k : Nat, k ≤ l.length ∧ i = .int .i64 k ∧ q = .int .i64 (minAll a (l.take k))) (fun _ _ i => l.length - (intOf i).toNat)
  case atStart => exact ⟨0, Nat.zero_le _, rfl, rfl⟩
  case round =>
    obtain ⟨k, hk, rfl, rfl⟩ := hrel
    by_cases hlt : k < l.length
    · obtain ⟨b, off, rfl, _, hc0⟩ := hcell k hlt
      have hn := minAll_next a l k hlt
      clear hcell
      by_cases hl : l[k] < minAll a (l.take k)
      · have HN := Lib.hid (show minAll a (l.take (k + 1)) = l[k] by omega)
        have hd : decide (l[k] < minAll a (l.take k)) = true := decide_eq_true hl
        clear hn hl
        go_wp2_with (go_at_call 44; refine (lower_any _ _ _).mono ?_; rintro e w9 ⟨rfl, rfl⟩)
        go_round
        case rel => exact ⟨k + 1, by omega, by go_num, by rw [HN.out]⟩
        case measure => simp [intOf]; omega
      · have HN := Lib.hid (show minAll a (l.take (k + 1)) = minAll a (l.take k) by omega)
        have hd : decide (l[k] < minAll a (l.take k)) = false := decide_eq_false hl
        clear hn hl
        go_wp2_with (go_at_call 44; refine (lower_any _ _ _).mono ?_; rintro e w9 ⟨rfl, rfl⟩)
        go_round
        case rel => exact ⟨k + 1, by omega, by go_num, by rw [HN.out]⟩
        case measure => simp [intOf]; omega
    · have HK := Lib.hid (show l.take k = l from List.take_of_length_le (by omega))
      clear hcell
      go_wp2
      go_ret
      exact ⟨ret_int (by rw [HK.out]), rfl⟩

theorem sl_int_two {W : World} {x y : Int} {t : TypeId} {g : Nat} (hg : g = W.heap.size) : SlI (W.alloc (.cells #[.int .i64 x, .int .i64 y] t)) (W.heap.size + 1) (.slice (some ⟨g, 0, none⟩) 2 2) [x, y] := by
  subst hg
  refine ⟨by simp, _, _, rfl, by simp, by simp [maxLen], fun _ => ⟨W.heap.size, 0, rfl, by omega, fun j u hu => ?_⟩⟩
  match j, hu with
  | 0, hu => simp at hu; subst hu; simp [go_sem]
  | 1, hu => simp at hu; subst hu; simp [go_sem]
  | j + 2, hu => simp at hu
set_option maxHeartbeats 2000000 in
set_option maxRecDepth 100000 in
theorem implDist_any (v u : Value) (a b : List UInt8) (B : Nat) (w : World) (h : SlB w B v a) (g : SlB w B u b) (hB : B ≤ w.heap.size) (ha : a.length ≤ 2097152) (hb : b.length ≤ 2097152) :
    Calls Try.prog 25 #[v, u] w fun e w' => e = .returned (.int .i64 (dist a b a.length b.length : Nat)) ∧ Below w.heap.size w w' := by
  obtain ⟨i0, hi, hz0, hz1, hz2⟩ := info_parts Try.info_int
  obtain ⟨A, c, rfl, hc, hm, hcell⟩ := h.open_
  obtain ⟨A', c', rfl, hc', hm', hcell'⟩ := g.open_
  unfold maxLen at hm hm'
  clear h g
  have hby : i0.bytes * (b.length + 1) ≤ 281474976710656 := by rw [hz2]; omega
  go_enter Try.func25, Try.ntmps25
  go_wp2_with (at_make; refine wpList_make_full _ rfl _ _ 54 rfl w.heap.size 3 i0 (.int .i64 0) 1 Try.underlying54 hi hz0 hz1 _ _ _ _ (b.length + 1) rfl rfl (by simp) rfl hby (by unfold maxLen; omega) (Nat.le_refl _) ?_; intro w1 hown hg)
  have hbel : Below w.heap.size w w1 := below_grown hg (Nat.le_refl _) (by intro k hk; cases hk)
  obtain ⟨ys, hys⟩ : ∃ ys, ys = (madeCells (Value.cells (.int .i64 0)) ((b.length + 1) * 1)).toList := ⟨_, rfl⟩
  rw [← hys] at hown
  clear hg hys
  obtain ⟨wo, hwo⟩ : ∃ wo : World, wo = w1 := ⟨_, rfl⟩
  subst hwo
  go_loopw [6, 17] (fun _ i wr => ∃ k : Nat, k ≤ b.length + 1 ∧ i = .int .i64 k ∧ (∃ ys, wr.ownsRow w.heap.size 3 1 (.slice (some ⟨w.heap.size, 0, none⟩) (b.length + 1) (b.length + 1)) (b.length + 1) (distRow a b 0 k ++ ys)) ∧ Below w.heap.size w wr) (fun _ i _ => b.length + 1 - (intOf i).toNat)
  case atStart => exact ⟨0, Nat.zero_le _, rfl, ⟨ys, hown⟩, hbel⟩
  case round =>
    clear hown hbel ys
    obtain ⟨k, hk, rfl, ⟨ys, hown⟩, hbel⟩ := hrel
    by_cases hlt : k < b.length + 1
    · have hys : 1 ≤ ys.length := by
        have := hown.1
        rw [List.length_append, distRow_length] at this
        omega
      have hf := hown.frozenAt k
      have hold : ∃ u, wr.cell? ⟨w.heap.size, k, none⟩ = some u := by
        rw [hown.cellAt k (by omega)]
        exact ⟨_, List.getElem?_eq_getElem (by rw [hown.1]; omega)⟩
      obtain ⟨u, hu⟩ := hold
      have hp := own_putCells [.int .i64 (k : Int)] _ _ ys hys hown
      have hpb := below_putCells (g := w.heap.size) [.int .i64 (k : Int)] _ k hbel (Nat.le_refl _)
      rw [distRow_length, show distRow a b 0 k ++ [.int .i64 (k : Int)] = distRow a b 0 (k + 1) by rw [distRow_succ, dist_zero]] at hp
      have H := Lib.hid (And.intro hp hpb)
      clear hp hpb hown hbel hcell hcell'
      go_wp2
      go_roundw
      case rel => exact ⟨k + 1, by omega, by go_num, ⟨_, H.out.1⟩, H.out.2⟩
      case measure => simp [intOf]; omega
    · have hkb : k = b.length + 1 := by omega
      have hys : ys = [] := by
        have := hown.1
        rw [List.length_append, distRow_length] at this
        exact List.eq_nil_of_length_eq_zero (by omega)
      rw [hys, List.append_nil, hkb] at hown
      have hle : decide ((k : Int) < (b.length : Int) + 1) = false := decide_eq_false (by omega)
      clear hkb hys ys hby
      go_wp2
      clear hle
      obtain ⟨wo, hwo⟩ : ∃ wo : World, wo = wr := ⟨_, rfl⟩
      subst hwo
      go_loopw [7, 8, 9, 10, 27] (fun _ _ _ _ i wr => ∃ j : Nat, j ≤ a.length ∧ i = .int .i64 j ∧ wr.ownsRow w.heap.size 3 1 (.slice (some ⟨w.heap.size, 0, none⟩) (b.length + 1) (b.length + 1)) (b.length + 1) (distRow a b j (b.length + 1)) ∧ Below w.heap.size w wr) (fun _ _ _ _ i _ => a.length - (intOf i).toNat)
      case atStart => exact ⟨0, Nat.zero_le _, rfl, hown, hbel⟩
      case round =>
        clear hown hbel
        obtain ⟨j, hj, rfl, hown, hbel⟩ := hrel
        by_cases hlt : j < a.length
        · obtain ⟨ba, oa, rfl, hbaB, hca⟩ := hcell j hlt
          have hf := hown.frozenAt 0
          have d0 : wr.cell? ⟨w.heap.size, 0, none⟩ = some (.int .i64 (j : Nat)) := by rw [hown.cellAt 0 (by omega), distRow_at _ _ _ _ _ (by omega), dist_col]
          have hs := (hown.stored 0 (.int .i64 ((j : Int) + 1))).1
          rw [← distMix_zero, show ((.int .i64 ((j : Int) + 1)) : Value) = .int .i64 (dist a b (j + 1) 0 : Nat) by rw [dist_col]; rfl, distMix_set _ _ _ _ _ (by omega), dist_col] at hs
          have hsb := hbel.setCell (p := ⟨w.heap.size, 0, none⟩) (Nat.le_refl _) (.int .i64 ((j : Int) + 1))
          have HS := Lib.hid (And.intro hs hsb)
          clear hown hs hsb hbel
          have hja : decide ((j : Int) < a.length) = true := decide_eq_true (by omega)
          go_wp2
          clear hja hf d0
          obtain ⟨wq, hwq⟩ : ∃ wq : World, wq = wr := ⟨_, rfl⟩
          subst hwq
          go_loopw [8, 9, 10, 39] (fun q _ _ i wr => ∃ k : Nat, k ≤ b.length ∧ i = .int .i64 k ∧ q = .int .i64 (dist a b j k : Nat) ∧ wr.ownsRow w.heap.size 3 1 (.slice (some ⟨w.heap.size, 0, none⟩) (b.length + 1) (b.length + 1)) (b.length + 1) (distMix a b j (b.length + 1) (k + 1)) ∧ Below w.heap.size w wr) (fun _ _ _ i _ => b.length - (intOf i).toNat)
          case atStart => exact ⟨0, Nat.zero_le _, rfl, by rw [dist_col], HS.out.1, HS.out.2⟩
          case round =>
            clear HS
            obtain ⟨k, hk, rfl, rfl, hown, hbel⟩ := hrel
            by_cases hlt2 : k < b.length
            · obtain ⟨bb, ob, rfl, hbbB, hcb⟩ := hcell' k hlt2
              have hlb := dist_le a b j k
              have hlb2 := dist_le a b j (k + 1)
              have hlb3 := dist_le a b (j + 1) k
              have hf := hown.frozenAt (k + 1)
              have hlw : w.heap.size < wr.heap.size := (hown.lt _ rfl).2
              have d2 : wr.cell? ⟨w.heap.size, k + 1, none⟩ = some (.int .i64 (dist a b j (k + 1) : Nat)) := by rw [hown.cellAt _ (by omega), distMix_old _ _ _ _ _ _ (by omega) (by omega)]
              have d3 : wr.cell? ⟨w.heap.size, k, none⟩ = some (.int .i64 (dist a b (j + 1) k : Nat)) := by rw [hown.cellAt _ (by omega), distMix_new _ _ _ _ _ _ (by omega) (by omega)]
              have d4 := (hbel.cell (p := ⟨ba, oa + j, none⟩) (by show ba < _; omega)).trans hca
              have d5 := (hbel.cell (p := ⟨bb, ob + k, none⟩) (by show bb < _; omega)).trans hcb
              clear hcell hcell' hca hcb
              by_cases he : a[j] = b[k]
              · have hbe : ((a[j].toNat : Int) == (b[k].toNat : Int)) = true := by rw [he]; simp
                have HI := Lib.hid ((byte_eq_iff hlt hlt2).2 he)
                clear he
                go_wp2
                go_quiet (fail)
                have f0 : (0 : Int) ≤ k := by omega
                have f1 : ((k : Int) + 1).toNat = k + 1 := by omega
                have f2 : (0 : Int) ≤ (k : Int) + 1 := by omega
                have f3 : (k : Int) + 1 < (b.length : Int) + 1 := by omega
                have f4 : (k : Int) < (b.length : Int) + 1 := by omega
                have f5 : IntKind.i64.wrap ((k : Int) + 1) = k + 1 := IntWalk.i64_in _ (by omega)
                have f6 : IntKind.i64.wrap (((dist a b j (k + 1) : Nat) : Int) + 1) = ((dist a b j (k + 1) : Nat) : Int) + 1 := IntWalk.i64_in _ (by omega)
                have f7 : IntKind.i64.wrap (((dist a b (j + 1) k : Nat) : Int) + 1) = ((dist a b (j + 1) k : Nat) : Int) + 1 := IntWalk.i64_in _ (by omega)
                have HV := Lib.hid (show (distMix a b j (b.length + 1) (k + 1)).set (k + 1) (.int .i64 (minAll (((dist a b j k : Nat) : Int)) [((dist a b j (k + 1) : Nat) : Int) + 1, ((dist a b (j + 1) k : Nat) : Int) + 1])) = distMix a b j (b.length + 1) (k + 1 + 1) by
                  refine Eq.trans ?_ (distMix_set a b j (b.length + 1) (k + 1) (by omega))
                  rw [dist_succ, if_pos HI.out]
                  exact congrArg (fun x => List.set _ _ (Value.int .i64 x)) (by simp only [minAll, List.foldl_cons, List.foldl_nil]; omega))
                have HO := Lib.hid hown
                have HB := Lib.hid hbel
                clear hown hbel
                go_wp2
                have c2 : ∀ o, ((wr.drewN (nq + 1)).alloc o).cell? ⟨w.heap.size, k + 1, none⟩ = some (.int .i64 (dist a b j (k + 1) : Nat)) := fun o => cell_later (Below.alloc (below_drewN (Below.refl _ _) _) (Nat.le_refl _) o) d2
                have c3 : ∀ o, ((wr.drewN (nq + 1)).alloc o).frozen? ⟨w.heap.size, k + 1, none⟩ = false := fun o => ((Below.alloc (below_drewN (Below.refl wr.heap.size wr) _) (Nat.le_refl _) o).frozen (p := ⟨w.heap.size, k + 1, none⟩) hlw).trans hf
                go_region_law ((go_simp; go_at_call 43; refine (pickLow_any _ [_, _] _ _ _ (sl_int_two (by simp))).mono ?_; rintro e w9 ⟨rfl, rfl⟩))
                all_goals
                  clear c2 c3 d2 d3 d4 d5 hf
                  go_wp2
                  go_roundw
                  case rel => exact ⟨k + 1, by omega, by go_num, rfl, by rw [← HV.out]; exact ((own_below HO.out (by repeat (first | exact Below.refl _ _ | assumption | refine Below.alloc ?_ (by simp <;> omega) _ | refine Below.setCell ?_ (by simp <;> omega) _ | refine Below.drew ?_ | refine below_drewN ?_ _)) (Nat.le_refl _)).stored (k + 1) _).1, Below.setCell (Below.alloc (below_drewN HB.out _) HB.out.size _) (Nat.le_refl _) _⟩
                  case measure => simp [intOf]; omega
              · have hbe := u8_int_ne he
                have HI := Lib.hid (show ¬ (a[j]? = b[k]?) from fun h => he ((byte_eq_iff hlt hlt2).1 h))
                clear he
                go_wp2
                go_quiet (fail)
                have f0 : (0 : Int) ≤ k := by omega
                have f1 : ((k : Int) + 1).toNat = k + 1 := by omega
                have f2 : (0 : Int) ≤ (k : Int) + 1 := by omega
                have f3 : (k : Int) + 1 < (b.length : Int) + 1 := by omega
                have f4 : (k : Int) < (b.length : Int) + 1 := by omega
                have f5 : IntKind.i64.wrap ((k : Int) + 1) = k + 1 := IntWalk.i64_in _ (by omega)
                have f6 : IntKind.i64.wrap (((dist a b j (k + 1) : Nat) : Int) + 1) = ((dist a b j (k + 1) : Nat) : Int) + 1 := IntWalk.i64_in _ (by omega)
                have f7 : IntKind.i64.wrap (((dist a b (j + 1) k : Nat) : Int) + 1) = ((dist a b (j + 1) k : Nat) : Int) + 1 := IntWalk.i64_in _ (by omega)
                have HV := Lib.hid (show (distMix a b j (b.length + 1) (k + 1)).set (k + 1) (.int .i64 (minAll (((dist a b j k : Nat) : Int) + 1) [((dist a b j (k + 1) : Nat) : Int) + 1, ((dist a b (j + 1) k : Nat) : Int) + 1])) = distMix a b j (b.length + 1) (k + 1 + 1) by
                  refine Eq.trans ?_ (distMix_set a b j (b.length + 1) (k + 1) (by omega))
                  rw [dist_succ, if_neg HI.out]
                  exact congrArg (fun x => List.set _ _ (Value.int .i64 x)) (by simp only [minAll, List.foldl_cons, List.foldl_nil]; omega))
                have HO := Lib.hid hown
                have HB := Lib.hid hbel
                clear hown hbel
                go_wp2
                have c2 : ∀ o, ((wr.drewN (nq + 1)).alloc o).cell? ⟨w.heap.size, k + 1, none⟩ = some (.int .i64 (dist a b j (k + 1) : Nat)) := fun o => cell_later (Below.alloc (below_drewN (Below.refl _ _) _) (Nat.le_refl _) o) d2
                have c3 : ∀ o, ((wr.drewN (nq + 1)).alloc o).frozen? ⟨w.heap.size, k + 1, none⟩ = false := fun o => ((Below.alloc (below_drewN (Below.refl wr.heap.size wr) _) (Nat.le_refl _) o).frozen (p := ⟨w.heap.size, k + 1, none⟩) hlw).trans hf
                go_region_law ((go_simp; go_at_call 43; refine (pickLow_any _ [_, _] _ _ _ (sl_int_two (by simp))).mono ?_; rintro e w9 ⟨rfl, rfl⟩))
                all_goals
                  clear c2 c3 d2 d3 d4 d5 hf
                  go_wp2
                  go_roundw
                  case rel => exact ⟨k + 1, by omega, by go_num, rfl, by rw [← HV.out]; exact ((own_below HO.out (by repeat (first | exact Below.refl _ _ | assumption | refine Below.alloc ?_ (by simp <;> omega) _ | refine Below.setCell ?_ (by simp <;> omega) _ | refine Below.drew ?_ | refine below_drewN ?_ _)) (Nat.le_refl _)).stored (k + 1) _).1, Below.setCell (Below.alloc (below_drewN HB.out _) HB.out.size _) (Nat.le_refl _) _⟩
                  case measure => simp [intOf]; omega
            · obtain rfl : k = b.length := by omega
              rw [distMix_all] at hown
              have H := Lib.hid (And.intro hown hbel)
              clear hown hbel hcell hcell'
              go_wp2
              go_roundw
              case rel => exact ⟨j + 1, by omega, by go_num, H.out.1, H.out.2⟩
              case measure => simp [intOf]; omega
        · obtain rfl : j = a.length := by omega
          have hce := hown.cellAt b.length (by omega)
          rw [distRow_at _ _ _ _ _ (by omega)] at hce
          have H := Lib.hid hbel
          clear hcell hcell' hown hbel
          go_wp2
          go_ret
          exact ⟨rfl, H.out⟩
end Go.Proofs.Ytacehndbkimggaa
