/- The walks of the laws' helpers on []Entry: szEntryS, toEntryS, eqEntryS. Conditions: the slices read as lists of entries. -/
import Derived.Test.YtnbemdcdokhknaaRows
import Derived.Test.YtnbemdcdokhknaaMem
import Derived.Test.YtnbemdcdokhknaaByte
import Derived.Test.YtnbemdcdokhknaaEntry
import Derived.WalkSpells
import Derived.WalkLawsBesides
import Derived.BigQuiet
import Derived.Deep.QuietTactic
import Derived.Deep.RegionHeld3
namespace Go.Proofs.Ytnbemdcdokhknaa
set_option linter.unusedSimpArgs false
set_option linter.unusedVariables false
open Go.RowKit

set_option maxHeartbeats 400000 in
theorem toEntryS_any (v : Value) (l : List Ent) (B : Nat) (w : World) (h : SlE w B v l) (hB : B ≤ w.heap.size) (hl : l.length ≤ 1048576) :
    Calls Try.prog 12 #[v] w (Fresh w 47 4 l.length (entsCells l)) := by
  obtain ⟨i0, hi, hz0, hz1, hz2⟩ := info_parts Try.info_entry
  obtain ⟨A, c, rfl, hc, hm, hcell⟩ := h.open_
  have hby : i0.bytes * l.length ≤ 281474976710656 := by rw [hz2]; omega
  go_enter Try.func12, Try.ntmps12
  go_wp2_with (at_make; refine wpList_make_full _ rfl _ _ 28 rfl w.heap.size 47 i0 (.agg #[.string ⟨#[]⟩, .int .i64 0, .int .i64 0, .int .i64 0]) 4 Try.underlying28 hi hz0 hz1 _ _ _ _ l.length rfl rfl rfl rfl hby (by unfold maxLen; omega) (Nat.le_refl _) ?_; intro w1 hown hg)
  have hbel : Below w.heap.size w w1 := below_grown hg (Nat.le_refl _) (by intro k hk; cases hk)
  obtain ⟨xs, hxs⟩ : ∃ xs, xs = (madeCells (Value.cells (.agg #[.string ⟨#[]⟩, .int .i64 0, .int .i64 0, .int .i64 0])) (l.length * 4)).toList := ⟨_, rfl⟩
  rw [← hxs] at hown
  clear hg hxs
  go_loopw [4] (fun i wr => ∃ k : Nat, k ≤ l.length ∧ i = .int .i64 k ∧ (∃ ys, wr.ownsRow w.heap.size 47 4 (.slice (some ⟨w.heap.size, 0, none⟩) l.length l.length) l.length (entsCells (l.take k) ++ ys)) ∧ Below w.heap.size w wr) (fun i _ => l.length - (intOf i).toNat)
  case atStart => exact ⟨0, Nat.zero_le _, rfl, ⟨xs, hown⟩, hbel⟩
  case round =>
    obtain ⟨k, hk, rfl, ⟨ys, hownr⟩, hb⟩ := hrel
    by_cases hlt : k < l.length
    · obtain ⟨b, off, rfl, hbB, hc0, hc1, hc2, hc3⟩ := hcell k hlt
      have hd0 : wr.cell? ⟨b, off + k * 4, none⟩ = some (.string l[k].path) := (hb.cell (p := ⟨b, off + k * 4, none⟩) (by show b < _; omega)).trans hc0
      have hd1 : wr.cell? ⟨b, off + k * 4 + 1, none⟩ = some (.int .i64 l[k].rule) := (hb.cell (p := ⟨b, off + k * 4 + 1, none⟩) (by show b < _; omega)).trans hc1
      have hd2 : wr.cell? ⟨b, off + k * 4 + 2, none⟩ = some (.int .i64 l[k].start) := (hb.cell (p := ⟨b, off + k * 4 + 2, none⟩) (by show b < _; omega)).trans hc2
      have hd3 : wr.cell? ⟨b, off + k * 4 + 3, none⟩ = some (.int .i64 l[k].stop) := (hb.cell (p := ⟨b, off + k * 4 + 3, none⟩) (by show b < _; omega)).trans hc3
      clear hcell hc0 hc1 hc2 hc3
      go_wp2_with fail
      refine (toEntry_any l[k] _).mono ?_
      rintro e w2 ⟨rfl, hb1⟩
      have hown2 := own_below hownr hb1 (Nat.le_refl _)
      have hb2 := hb.trans (hb1.mono (by have := hb.size; omega))
      clear hd0 hd1 hd2 hd3 hownr hb hb1
      have hf0 := hown2.frozenAt (k * 4)
      have hf1 := hown2.frozenAt (k * 4 + 1)
      have hf2 := hown2.frozenAt (k * 4 + 2)
      have hf3 := hown2.frozenAt (k * 4 + 3)
      have hold : ∀ j, j < 4 → ∃ u, w2.cell? ⟨w.heap.size, k * 4 + j, none⟩ = some u := by
        intro j hj
        rw [hown2.cellAt (k * 4 + j) (by omega)]
        exact ⟨_, List.getElem?_eq_getElem (by rw [hown2.1]; omega)⟩
      obtain ⟨u0, hu0⟩ := hold 0 (by omega)
      obtain ⟨u1, hu1⟩ := hold 1 (by omega)
      obtain ⟨u2, hu2⟩ := hold 2 (by omega)
      obtain ⟨u3, hu3⟩ := hold 3 (by omega)
      rw [Nat.add_zero] at hu0
      clear hold
      have hys : 4 ≤ ys.length := by
        have := hown2.1
        rw [List.length_append, entsCells_length, List.length_take, Nat.min_eq_left hk] at this
        omega
      have hp := own_putCells (entCells l[k]) _ _ ys (by simpa [entCells] using hys) hown2
      rw [entsCells_length, List.length_take, Nat.min_eq_left hk, entsCells_next l k hlt] at hp
      have hpb := below_putCells (g := w.heap.size) (entCells l[k]) _ (k * 4) hb2 (Nat.le_refl _)
      have HP := Lib.hid (And.intro hp hpb)
      clear hp hpb hys hown2 hb2
      unfold entV
      go_wp2
      go_roundw
      case rel => exact ⟨k + 1, by omega, by go_num, ⟨_, HP.out.1⟩, HP.out.2⟩
      case measure => simp [intOf]; omega
    · have hkl : k = l.length := by omega
      have hys : ys = [] := by
        have := hownr.1
        rw [List.length_append, entsCells_length, List.length_take, Nat.min_eq_left hk] at this
        exact List.eq_nil_of_length_eq_zero (by omega)
      rw [hys, List.append_nil, hkl, List.take_length] at hownr
      have H := Lib.hid (And.intro hownr hb)
      clear hkl hys hownr hb hown hbel hcell
      go_wp2
      go_ret
      exact ⟨_, rfl, H.out.1, H.out.2⟩

def sumLens : List Ent → Int
  | [] => 0
  | e :: l => e.path.size + sumLens l

/-- szEntryS answers -1, or all lengths lie below the bound. -/
def SzE (l : List Ent) (n : Int) (w : World) (x : Ending) (w' : World) : Prop :=
  ∃ r : Int, x = .returned (.int .i64 r) ∧ Below w.heap.size w w' ∧ (r = -1 ∨ (0 ≤ r ∧ r ≤ n ∧ (l.length : Int) ≤ n ∧ ∀ e ∈ l, (e.path.size : Int) ≤ n))

set_option maxHeartbeats 400000 in
theorem szEntryS_any (v : Value) (l : List Ent) (B : Nat) (n : Int) (w : World) (h : SlE w B v l) (hB : B ≤ w.heap.size) (he : ∀ e ∈ l, e.path.size ≤ maxLen) (h0 : 0 ≤ n) (h1 : n ≤ 1048576) :
    Calls Try.prog 9 #[v, .int .i64 n] w (SzE l n w) := by
  obtain ⟨A, c, rfl, hc, hm, hcell⟩ := h.open_
  unfold maxLen at hm
  by_cases hbig : n - l.length < 0
  · clear hcell h
    go_enter Try.func9, Try.ntmps9
    go_wp2
    go_ret
    exact ⟨-1, rfl, Below.refl _ _, .inl rfl⟩
  · go_enter Try.func9, Try.ntmps9
    go_wp2
    go_loopw [1, 5] (fun q i wr => ∃ (k : Nat) (r : Int), k ≤ l.length ∧ i = .int .i64 k ∧ q = .int .i64 r ∧ 0 ≤ r ∧ r ≤ n ∧ (∀ e ∈ l.take k, (e.path.size : Int) ≤ n) ∧ Below w.heap.size w wr) (fun _ i _ => l.length - (intOf i).toNat)
    case atStart => exact ⟨0, _, Nat.zero_le _, rfl, rfl, by omega, by omega, by simp, Below.refl _ _⟩
    case round =>
      obtain ⟨k, r, hk, rfl, rfl, hr0, hr1, hall, hb⟩ := hrel
      have HA := Lib.hid hall
      clear hall
      by_cases hlt : k < l.length
      · obtain ⟨b, off, rfl, hbB, hc0, hc1, hc2, hc3⟩ := hcell k hlt
        have hd0 : wr.cell? ⟨b, off + k * 4, none⟩ = some (.string l[k].path) := (hb.cell (p := ⟨b, off + k * 4, none⟩) (by show b < _; omega)).trans hc0
        have hd1 : wr.cell? ⟨b, off + k * 4 + 1, none⟩ = some (.int .i64 l[k].rule) := (hb.cell (p := ⟨b, off + k * 4 + 1, none⟩) (by show b < _; omega)).trans hc1
        have hd2 : wr.cell? ⟨b, off + k * 4 + 2, none⟩ = some (.int .i64 l[k].start) := (hb.cell (p := ⟨b, off + k * 4 + 2, none⟩) (by show b < _; omega)).trans hc2
        have hd3 : wr.cell? ⟨b, off + k * 4 + 3, none⟩ = some (.int .i64 l[k].stop) := (hb.cell (p := ⟨b, off + k * 4 + 3, none⟩) (by show b < _; omega)).trans hc3
        have hps := he l[k] (List.getElem_mem hlt)
        clear hcell hc0 hc1 hc2 hc3 he
        go_wp2_with fail
        by_cases hs : r - l[k].path.size < 0
        · refine (szEntry_any l[k] r _ hps hr0 (by omega)).mono ?_
          rw [if_pos hs]
          rintro e w2 ⟨rfl, hb1⟩
          have H := Lib.hid (hb.trans (hb1.mono (by have := hb.size; omega)))
          clear hd0 hd1 hd2 hd3 hb hb1
          go_wp2
          go_ret
          exact ⟨-1, rfl, H.out, .inl rfl⟩
        · refine (szEntry_any l[k] r _ hps hr0 (by omega)).mono ?_
          rw [if_neg hs]
          rintro e w2 ⟨rfl, hb1⟩
          have H := Lib.hid (hb.trans (hb1.mono (by have := hb.size; omega)))
          clear hd0 hd1 hd2 hd3 hb hb1
          go_wp2
          go_roundw
          case rel =>
            refine ⟨k + 1, _, by omega, by go_num, rfl, by omega, by omega, ?_, H.out⟩
            intro e hmem
            rw [List.take_succ_eq_append_getElem hlt, List.mem_append] at hmem
            rcases hmem with hmem | hmem
            · exact HA.out e hmem
            · simp at hmem; subst hmem; omega
          case measure => simp [intOf]; omega
      · have HK := Lib.hid (show k = l.length by omega)
        clear hcell he
        go_wp2
        go_ret
        refine ⟨r, rfl, hb, .inr ⟨hr0, hr1, by omega, ?_⟩⟩
        have := HA.out
        rw [HK.out, List.take_length] at this
        exact this

set_option maxHeartbeats 400000 in
theorem eqEntryS_any (v v' : Value) (l l' : List Ent) (B B' : Nat) (w : World) (h : SlE w B v l) (h' : SlE w B' v' l') (hB : B ≤ w.heap.size) (hB' : B' ≤ w.heap.size) (hsame : l = l') :
    Calls Try.prog 14 #[v, v'] w fun e w' => e = .returned (.bool true) ∧ Below w.heap.size w w' := by
  subst hsame
  obtain ⟨A, c, rfl, hc, hm, hcell⟩ := h.open_
  obtain ⟨A', c', rfl, hc', hm', hcell'⟩ := h'.open_
  unfold maxLen at hm hm'
  clear h h'
  go_enter Try.func14, Try.ntmps14
  go_wp2
  go_loopw [5] (fun i wr => ∃ k : Nat, k ≤ l.length ∧ i = .int .i64 k ∧ Below w.heap.size w wr) (fun i _ => l.length - (intOf i).toNat)
  case atStart => exact ⟨0, Nat.zero_le _, rfl, Below.refl _ _⟩
  case round =>
    obtain ⟨k, hk, rfl, hb⟩ := hrel
    by_cases hlt : k < l.length
    · obtain ⟨b, off, rfl, hbB, hc0, hc1, hc2, hc3⟩ := hcell k hlt
      obtain ⟨b', off', rfl, hbB', hc0', hc1', hc2', hc3'⟩ := hcell' k hlt
      have hd0 : wr.cell? ⟨b, off + k * 4, none⟩ = some (.string l[k].path) := (hb.cell (p := ⟨b, off + k * 4, none⟩) (by show b < _; omega)).trans hc0
      have hd1 : wr.cell? ⟨b, off + k * 4 + 1, none⟩ = some (.int .i64 l[k].rule) := (hb.cell (p := ⟨b, off + k * 4 + 1, none⟩) (by show b < _; omega)).trans hc1
      have hd2 : wr.cell? ⟨b, off + k * 4 + 2, none⟩ = some (.int .i64 l[k].start) := (hb.cell (p := ⟨b, off + k * 4 + 2, none⟩) (by show b < _; omega)).trans hc2
      have hd3 : wr.cell? ⟨b, off + k * 4 + 3, none⟩ = some (.int .i64 l[k].stop) := (hb.cell (p := ⟨b, off + k * 4 + 3, none⟩) (by show b < _; omega)).trans hc3
      have he0 : wr.cell? ⟨b', off' + k * 4, none⟩ = some (.string l[k].path) := (hb.cell (p := ⟨b', off' + k * 4, none⟩) (by show b' < _; omega)).trans hc0'
      have he1 : wr.cell? ⟨b', off' + k * 4 + 1, none⟩ = some (.int .i64 l[k].rule) := (hb.cell (p := ⟨b', off' + k * 4 + 1, none⟩) (by show b' < _; omega)).trans hc1'
      have he2 : wr.cell? ⟨b', off' + k * 4 + 2, none⟩ = some (.int .i64 l[k].start) := (hb.cell (p := ⟨b', off' + k * 4 + 2, none⟩) (by show b' < _; omega)).trans hc2'
      have he3 : wr.cell? ⟨b', off' + k * 4 + 3, none⟩ = some (.int .i64 l[k].stop) := (hb.cell (p := ⟨b', off' + k * 4 + 3, none⟩) (by show b' < _; omega)).trans hc3'
      clear hcell hc0 hc1 hc2 hc3 hcell' hc0' hc1' hc2' hc3'
      go_wp2_with fail
      go_region_held3 (fun w' => w'.cell? ⟨b, off + k * 4, none⟩ = some (.string l[k].path) ∧ w'.cell? ⟨b, off + k * 4 + 1, none⟩ = some (.int .i64 l[k].rule) ∧ w'.cell? ⟨b, off + k * 4 + 2, none⟩ = some (.int .i64 l[k].start) ∧ w'.cell? ⟨b, off + k * 4 + 3, none⟩ = some (.int .i64 l[k].stop) ∧
          w'.cell? ⟨b', off' + k * 4, none⟩ = some (.string l[k].path) ∧ w'.cell? ⟨b', off' + k * 4 + 1, none⟩ = some (.int .i64 l[k].rule) ∧ w'.cell? ⟨b', off' + k * 4 + 2, none⟩ = some (.int .i64 l[k].start) ∧ w'.cell? ⟨b', off' + k * 4 + 3, none⟩ = some (.int .i64 l[k].stop) ∧ Below w.heap.size w w')
        (first | exact ⟨hd0, hd1, hd2, hd3, he0, he1, he2, he3, hb⟩ | exact ⟨hd0, hd1, hd2, hd3, he0, he1, he2, he3, hb.drew⟩ | (go_split_ands; exact ⟨cell_later hb1 (by assumption), cell_later hb1 (by assumption), cell_later hb1 (by assumption), cell_later hb1 (by assumption), cell_later hb1 (by assumption), cell_later hb1 (by assumption), cell_later hb1 (by assumption), cell_later hb1 (by assumption), below_step hb1 (by assumption)⟩))
        (first | (go_at_call 35; refine (eqEntry_same l[k] _).mono ?_; rintro e w2 ⟨rfl, hb1⟩))
      have HB := Lib.hid (below_step hb1 hb.drew)
      clear hd0 hd1 hd2 hd3 he0 he1 he2 he3 hb
      go_wp2
      go_roundw
      case rel => exact ⟨k + 1, by omega, by go_num, HB.out⟩
      case measure => simp [intOf]; omega
    · clear hcell hcell'
      go_wp2
      go_ret
      exact ⟨rfl, hb⟩
end Go.Proofs.Ytnbemdcdokhknaa
