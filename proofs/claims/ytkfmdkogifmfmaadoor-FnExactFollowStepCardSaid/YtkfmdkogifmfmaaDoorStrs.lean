/- The walks of the laws' helpers on []string: szStringS, toStringS, eqStringS. Conditions: the slices read as lists of strings. -/
import Derived.Test.YtkfmdkogifmfmaaDoorRows
import Derived.Test.YtkfmdkogifmfmaaDoorMem
import Derived.Test.YtkfmdkogifmfmaaDoorByte
import Derived.WalkSpells
import Derived.WalkLawsBesides
import Derived.BigQuiet
import Derived.Deep.QuietTactic
namespace Go.Proofs.YtkfmdkogifmfmaaDoor
set_option linter.unusedSimpArgs false
set_option linter.unusedVariables false
open Go.RowKit

theorem Tryd.info_str : (Tryd.prog.info? 9).map (fun i => (i.zero, i.size, i.bytes)) = some (some (.string ⟨#[]⟩), 1, 16) := by kernel_rfl

def total : List ByteArray → Nat
  | [] => 0
  | s :: l => s.size + total l
theorem total_append (a b : List ByteArray) : total (a ++ b) = total a + total b := by
  induction a with
  | nil => simp [total]
  | cons s a ih => simp only [List.cons_append, total, ih]; omega
theorem total_next (l : List ByteArray) (k : Nat) (h : k < l.length) : total (l.take (k + 1)) = total (l.take k) + l[k].size := by
  rw [List.take_succ_eq_append_getElem h, total_append]; simp [total]
theorem total_take_le (l : List ByteArray) (k : Nat) : total (l.take k) ≤ total l := by
  conv => rhs; rw [← List.take_append_drop k l, total_append]
  omega
theorem size_le_total (l : List ByteArray) (s : ByteArray) (h : s ∈ l) : s.size ≤ total l := by
  induction l with
  | nil => simp at h
  | cons a l ih =>
    simp only [List.mem_cons] at h
    rcases h with rfl | h
    · simp [total]
    · have := ih h; simp only [total]; omega

/-- szStringS answers -1, or the number of strings and all their letters lie within the bound; what is left is told. -/
def SzS (l : List ByteArray) (n : Int) (w : World) (x : Ending) (w' : World) : Prop :=
  ∃ r : Int, x = .returned (.int .i64 r) ∧ w = w' ∧ (r = -1 ∨ (0 ≤ r ∧ r = n - l.length - total l))

set_option maxHeartbeats 400000 in
theorem szStringS_any (v : Value) (l : List ByteArray) (B : Nat) (n : Int) (w : World) (h : SlS w B v l) (he : ∀ s ∈ l, s.size ≤ maxLen) (h0 : 0 ≤ n) (h1 : n ≤ 1048576) :
    Calls Tryd.prog 49 #[v, .int .i64 n] w (SzS l n w) := by
  obtain ⟨A, c, rfl, hc, hm, hcell⟩ := h.one
  unfold maxLen at hm
  by_cases hbig : n - l.length < 0
  · clear hcell h he
    go_enter Tryd.func49, Tryd.ntmps49
    go_wp2
    go_ret
    exact ⟨-1, rfl, rfl, .inl rfl⟩
  · go_enter Tryd.func49, Tryd.ntmps49
    go_wp2
    go_loop [1, 5] (fun q i => ∃ (k : Nat) (r : Int), k ≤ l.length ∧ i = .int .i64 k ∧ q = .int .i64 r ∧ 0 ≤ r ∧ r ≤ n ∧ r = n - l.length - total (l.take k)) (fun _ i => l.length - (intOf i).toNat)
    case atStart => exact ⟨0, _, Nat.zero_le _, rfl, rfl, by omega, by omega, by simp [total]⟩
    case round =>
      obtain ⟨k, r, hk, rfl, rfl, hr0, hr1, hall⟩ := hrel
      have HA := Lib.hid hall
      clear hall
      by_cases hlt : k < l.length
      · obtain ⟨b, off, rfl, hbB, hc0⟩ := hcell k hlt
        have hps := he l[k] (List.getElem_mem hlt)
        unfold maxLen at hps
        clear hcell he
        by_cases hs : r - l[k].size < 0
        · go_wp2
          go_ret
          exact ⟨-1, rfl, rfl, .inl rfl⟩
        · go_wp2
          go_round
          case rel => exact ⟨k + 1, _, by omega, by go_num, rfl, by omega, by omega, by rw [total_next l k hlt, HA.out]; omega⟩
          case measure => simp [intOf] <;> omega
      · have HK := Lib.hid (show k = l.length by omega)
        clear hcell he
        go_wp2
        go_ret
        refine ⟨r, rfl, rfl, .inr ⟨hr0, ?_⟩⟩
        have := HA.out
        rw [HK.out, List.take_length] at this
        exact this

set_option maxHeartbeats 400000 in
theorem toStringS_any (v : Value) (l : List ByteArray) (B : Nat) (w : World) (h : SlS w B v l) (hB : B ≤ w.heap.size) (hl : l.length ≤ 1048576) :
    Calls Tryd.prog 51 #[v] w (Fresh w 9 1 l.length (l.map .string)) := by
  obtain ⟨i0, hi, hz0, hz1, hz2⟩ := info_parts Tryd.info_str
  obtain ⟨A, c, rfl, hc, hm, hcell⟩ := h.one
  unfold maxLen at hm
  have hby : i0.bytes * l.length ≤ 281474976710656 := by rw [hz2]; omega
  go_enter Tryd.func51, Tryd.ntmps51
  go_wp2_with (at_make; refine wpList_make_full _ rfl _ _ 55 rfl w.heap.size 9 i0 (.string ⟨#[]⟩) 1 Tryd.underlying55 hi hz0 hz1 _ _ _ _ l.length rfl rfl rfl rfl hby (by unfold maxLen; omega) (Nat.le_refl _) ?_; intro w1 hown hg)
  have hbel : Below w.heap.size w w1 := below_grown hg (Nat.le_refl _) (by intro k hk; cases hk)
  have e0 : (madeCells (Value.cells (.string ⟨#[]⟩)) (l.length * 1)).toList = filled (l.map .string) (.string ⟨#[]⟩) 0 := by
    rw [filled_zero, List.length_map, Nat.mul_one]
    exact toList_madeCells_one _ _
  rw [e0] at hown
  clear hg e0
  go_loopw [4] (fun i wr => ∃ k : Nat, k ≤ l.length ∧ i = .int .i64 k ∧ wr.ownsRow w.heap.size 9 1 (.slice (some ⟨w.heap.size, 0, none⟩) l.length l.length) l.length (filled (l.map .string) (.string ⟨#[]⟩) k) ∧ Below w.heap.size w wr) (fun i _ => l.length - (intOf i).toNat)
  case atStart => exact ⟨0, Nat.zero_le _, rfl, hown, hbel⟩
  case round =>
    obtain ⟨k, hk, rfl, hownr, hb⟩ := hrel
    by_cases hlt : k < l.length
    · obtain ⟨b, off, rfl, hbB, hc0⟩ := hcell k hlt
      have hcr : wr.cell? ⟨b, off + k, none⟩ = some (.string l[k]) := (hb.cell (p := ⟨b, off + k, none⟩) (by show b < _; omega)).trans hc0
      have hfz := hownr.frozenAt k
      have hold : ∃ u, wr.cell? ⟨w.heap.size, k, none⟩ = some u := by
        rw [hownr.cellAt k (by omega)]
        exact ⟨_, List.getElem?_eq_getElem (by rw [hownr.1]; omega)⟩
      obtain ⟨u, hu⟩ := hold
      have hst := (hownr.stored k (.string l[k])).1
      have hfs := filled_set (l.map .string) (.string ⟨#[]⟩) k (by simpa using hlt)
      rw [List.getElem_map] at hfs
      rw [hfs] at hst
      have hbs := hb.setCell (p := ⟨w.heap.size, k, none⟩) (Nat.le_refl _) (.string l[k])
      have HST := Lib.hid (And.intro hst hbs)
      clear hst hfs hbs hownr hb hcell hown hbel
      go_wp2
      go_roundw
      case rel => exact ⟨k + 1, by omega, by go_num, HST.out.1, HST.out.2⟩
      case measure => simp [intOf] <;> omega
    · have hkl : k = l.length := by omega
      have hall := filled_all (l.map Value.string) (.string ⟨#[]⟩)
      rw [List.length_map, ← hkl] at hall
      rw [hall] at hownr
      have H := Lib.hid (And.intro hownr hb)
      clear hall hkl hownr hb hown hbel hcell
      go_wp2
      go_ret
      exact ⟨_, rfl, H.out.1, H.out.2⟩

theorem own_strs {w : World} {base : Nat} {v : Value} {l : List ByteArray} (h : w.ownsRow base 9 1 v l.length (l.map .string)) : SlS w w.heap.size v l := Sl.of_own h

theorem bytes_eq {a b : ByteArray} : (a.toList == b.toList) = true ↔ a = b := by
  rw [beq_iff_eq, Lib.toList_data, Lib.toList_data]
  constructor
  · intro h; apply ByteArray.ext; exact Array.toList_inj.1 h
  · rintro rfl; rfl
theorem bytes_ne {a b : ByteArray} (h : a ≠ b) : (a.toList == b.toList) = false := by
  rw [Bool.eq_false_iff]; intro hx; exact h (bytes_eq.1 hx)

set_option maxHeartbeats 400000 in
theorem eqStringS_any (v v' : Value) (l l' : List ByteArray) (B B' : Nat) (w : World) (h : SlS w B v l) (h' : SlS w B' v' l') :
    Calls Tryd.prog 54 #[v, v'] w (Quiet w (.bool (decide (l = l')))) := by
  obtain ⟨A, c, rfl, hc, hm, hcell⟩ := h.one
  obtain ⟨A', c', rfl, hc', hm', hcell'⟩ := h'.one
  unfold maxLen at hm hm'
  clear h h'
  by_cases hne : l.length = l'.length
  · have HE := Lib.hid hne
    have hb : ((l.length : Int) == (l'.length : Int)) = true := by rw [hne]; simp
    have hlen1 : l.length ≤ l'.length := by omega
    have hlen2 : l'.length ≤ l.length := by omega
    clear hne
    go_enter Tryd.func54, Tryd.ntmps54
    go_wp2
    go_loopw [5] (fun i wr => ∃ k n : Nat, k ≤ l.length ∧ i = .int .i64 k ∧ wr = w.drewN n ∧ l.take k = l'.take k) (fun i _ => l.length - (intOf i).toNat)
    case atStart => exact ⟨0, 0, Nat.zero_le _, rfl, rfl, rfl⟩
    case round =>
      obtain ⟨k, n, hk, rfl, rfl, ht⟩ := hrel
      have HT := Lib.hid ht
      clear ht
      by_cases hlt : k < l.length
      · obtain ⟨b, off, rfl, _, hc0⟩ := hcell k hlt
        obtain ⟨b', off', rfl, _, hc0'⟩ := hcell' k (by omega)
        have hlt' : k < l'.length := by omega
        clear hcell hcell'
        by_cases he : l[k] = l'[k]
        · have HX := Lib.hid (take_next hlt (by omega) HT.out he)
          have hbe : (l[k].toList == l'[k].toList) = true := bytes_eq.2 he
          clear he
          go_wp2
          go_quiet (fail)
          go_wp2
          go_roundw
          case rel => exact ⟨k + 1, _, by omega, by go_num, rfl, HX.out⟩
          case measure => simp [intOf]; omega
        · have hbe : (l[k].toList == l'[k].toList) = false := bytes_ne he
          have HX := Lib.hid (show decide (l = l') = false by
            apply decide_eq_false; rintro rfl; exact he rfl)
          clear he
          go_wp2
          go_quiet (fail)
          go_wp2
          go_ret
          exact ⟨ret_bool HX.out.symm, _, World.drewN_drewN _ _ _⟩
      · have HX := Lib.hid (show decide (l = l') = true by
          have h1 := HT.out
          have h2 := HE.out
          rw [List.take_of_length_le (by omega), List.take_of_length_le (by omega)] at h1
          exact decide_eq_true h1)
        clear hcell hcell'
        go_wp2
        go_ret
        exact ⟨ret_bool HX.out.symm, _, rfl⟩
  · have hb : ((l.length : Int) == (l'.length : Int)) = false := by rw [beq_eq_false_iff_ne]; omega
    have HX := Lib.hid (show decide (l = l') = false by apply decide_eq_false; rintro rfl; exact hne rfl)
    clear hne hcell hcell'
    go_enter Tryd.func54, Tryd.ntmps54
    go_wp2
    go_ret
    exact ⟨ret_bool HX.out.symm, 0, rfl⟩

/-! ### JoinPath -/
def slash : ByteArray := ⟨#[47]⟩
def joinP (l : List ByteArray) : ByteArray := l.foldl (fun s x => s ++ slash ++ x) ⟨#[]⟩
theorem joinP_next (l : List ByteArray) (k : Nat) (h : k < l.length) : joinP (l.take (k + 1)) = joinP (l.take k) ++ slash ++ l[k] := by
  rw [List.take_succ_eq_append_getElem h, joinP, List.foldl_append]; rfl
theorem joinP_size_aux (l : List ByteArray) : ∀ s : ByteArray, (l.foldl (fun s x => s ++ slash ++ x) s).size = s.size + l.length + total l := by
  induction l with
  | nil => intro s; simp [total]
  | cons x l ih =>
    intro s
    rw [List.foldl_cons, ih]
    simp only [ByteArray.size_append, List.length_cons, total]
    have : slash.size = 1 := rfl
    omega
theorem joinP_size (l : List ByteArray) : (joinP l).size = l.length + total l := by
  rw [joinP, joinP_size_aux]; simp; rfl

end Go.Proofs.YtkfmdkogifmfmaaDoor
