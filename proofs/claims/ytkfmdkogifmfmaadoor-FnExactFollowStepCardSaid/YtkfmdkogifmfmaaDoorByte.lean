/- The walks of the laws' helpers on []byte: toByteS copies into a row of its own, eqByteS compares, markByteS writes k, k+1, .. and heldByteS finds them again. Conditions: the slices read as lists, the marks do not wrap an int. -/
import Derived.Test.YtkfmdkogifmfmaaDoorRows
import Derived.Test.YtkfmdkogifmfmaaDoorMem
import Derived.WalkSpells
import Derived.WalkLawsBesides
import Derived.BigQuiet
import Derived.Deep.QuietTactic
namespace Go.Proofs.YtkfmdkogifmfmaaDoor
set_option linter.unusedSimpArgs false
set_option linter.unusedVariables false
open Go.RowKit

theorem Tryd.info_u8 : (Tryd.prog.info? 5).map (fun i => (i.zero, i.size, i.bytes)) = some (some (.int .u8 0), 1, 1) := by kernel_rfl

/-- A new row of the call's own: what toByteS and its like leave. -/
def Fresh (w : World) (E : TypeId) (size n : Nat) (xs : List Value) (e : Ending) (w' : World) : Prop :=
  ∃ v, e = .returned v ∧ w'.ownsRow w.heap.size E size v n xs ∧ Below w.heap.size w w'

/-- Of src the first k, then zeros. -/
def filled (src : List Value) (z : Value) (k : Nat) : List Value := src.take k ++ List.replicate (src.length - k) z
theorem filled_zero (src : List Value) (z : Value) : filled src z 0 = List.replicate src.length z := by simp [filled]
theorem filled_all (src : List Value) (z : Value) : filled src z src.length = src := by simp [filled]
theorem filled_set (src : List Value) (z : Value) (k : Nat) (h : k < src.length) : (filled src z k).set k src[k] = filled src z (k + 1) := by
  apply List.ext_getElem?
  intro i
  simp only [filled, List.getElem?_set, List.getElem?_append, List.length_take, List.getElem?_take, List.getElem?_replicate, List.length_append, List.length_replicate]
  by_cases h1 : k = i
  · subst h1
    simp [h, Nat.min_eq_left (Nat.le_of_lt h), Nat.min_eq_left (Nat.succ_le_of_lt h)]
    omega
  · by_cases h4 : i < src.length
    · by_cases h2 : i < k
      · simp [h1, h4, h2, Nat.min_eq_left (Nat.le_of_lt h), Nat.min_eq_left (Nat.succ_le_of_lt h), show i < k + 1 from by omega]
      · simp [h1, h2, Nat.min_eq_left (Nat.le_of_lt h), Nat.min_eq_left (Nat.succ_le_of_lt h), show ¬ i < k + 1 from by omega, show i - k < src.length - k from by omega, show i - (k + 1) < src.length - (k + 1) from by omega]
    · simp [h1, Nat.min_eq_left (Nat.le_of_lt h), Nat.min_eq_left (Nat.succ_le_of_lt h), show ¬ i < k + 1 from by omega, show ¬ i < k from by omega, show ¬ i - k < src.length - k from by omega, show ¬ i - (k + 1) < src.length - (k + 1) from by omega]

theorem u8s_at (l : List UInt8) (k : Nat) (h : k < l.length) : (u8s l)[k]'(by simpa using h) = .int .u8 (l[k].toNat : Int) := by simp [u8s, u8v]

set_option maxHeartbeats 400000 in
theorem toByteS_any (v : Value) (l : List UInt8) (B : Nat) (w : World) (h : SlB w B v l) (hB : B ≤ w.heap.size) (hl : l.length ≤ 281474976710656) :
    Calls Tryd.prog 33 #[v] w (Fresh w 5 1 l.length (u8s l)) := by
  obtain ⟨i0, hi, hz0, hz1, hz2⟩ := info_parts Tryd.info_u8
  obtain ⟨A, c, rfl, hc, hm, hcell⟩ := h.open_
  unfold maxLen at hm
  have hby : i0.bytes * l.length ≤ 281474976710656 := by rw [hz2]; omega
  go_enter Tryd.func33, Tryd.ntmps33
  go_wp2_with (at_make; refine wpList_make_full _ rfl _ _ 40 rfl w.heap.size 5 i0 (.int .u8 0) 1 Tryd.underlying40 hi hz0 hz1 _ _ _ _ l.length rfl rfl rfl rfl hby (by unfold maxLen; omega) (Nat.le_refl _) ?_; intro w1 hown hg)
  obtain ⟨wo, hwo⟩ : ∃ wo : World, wo = w1 := ⟨_, rfl⟩
  have hbel : Below w.heap.size w w1 := below_grown hg (Nat.le_refl _) (by intro k hk; cases hk)
  have e0 : (madeCells (Value.cells (.int .u8 0)) (l.length * 1)).toList = filled (u8s l) (.int .u8 0) 0 := by
    rw [filled_zero, u8s_length, Nat.mul_one]
    exact toList_madeCells_one _ _
  rw [e0] at hown
  subst hwo
  clear hg e0
  obtain ⟨g, hg⟩ : ∃ g, g = w.heap.size := ⟨_, rfl⟩
  go_loopw [4] (fun i wr => ∃ k : Nat, k ≤ l.length ∧ i = .int .i64 k ∧ wr.ownsRow w.heap.size 5 1 (.slice (some ⟨w.heap.size, 0, none⟩) l.length l.length) l.length (filled (u8s l) (.int .u8 0) k) ∧ Below w.heap.size w wr) (fun i _ => l.length - (intOf i).toNat)
  case atStart => exact ⟨0, Nat.zero_le _, rfl, hown, hbel⟩
  case round =>
    obtain ⟨k, hk, rfl, hownr, hb⟩ := hrel
    by_cases hlt : k < l.length
    · obtain ⟨b, off, rfl, hbB, hc0⟩ := hcell k hlt
      have hcr : wr.cell? ⟨b, off + k, none⟩ = some (.int .u8 (l[k].toNat : Int)) := (hb.cell (p := ⟨b, off + k, none⟩) (by show b < _; omega)).trans hc0
      have hfz := hownr.frozenAt k
      have hold : ∃ u, wr.cell? ⟨w.heap.size, k, none⟩ = some u := by
        rw [hownr.cellAt k (by omega)]
        exact ⟨_, List.getElem?_eq_getElem (by rw [hownr.1]; omega)⟩
      obtain ⟨u, hu⟩ := hold
      have hst := hownr.stored k (.int .u8 (l[k].toNat : Int))
      have hfs := filled_set (u8s l) (.int .u8 0) k (by simpa using hlt)
      rw [u8s_at l k hlt] at hfs
      rw [hfs] at hst
      have hbs := hb.setCell (p := ⟨w.heap.size, k, none⟩) (Nat.le_refl _) (.int .u8 (l[k].toNat : Int))
      have HST := Lib.hid (And.intro hst.1 hbs)
      clear hst hfs hbs hownr hb hcell hown hbel
      go_wp2
      go_roundw
      case rel => exact ⟨k + 1, by omega, by go_num, HST.out.1, HST.out.2⟩
      case measure => simp [intOf]; omega
    · have hkl : k = l.length := by omega
      have hall := filled_all (u8s l) (.int .u8 0)
      rw [u8s_length, ← hkl] at hall
      rw [hall] at hownr
      have H := Lib.hid (And.intro hownr hb)
      have HK := Lib.hid hkl
      clear hall hkl hownr hb hown hbel hcell
      go_wp2
      go_ret
      exact ⟨_, rfl, H.out.1, H.out.2⟩

/-- The call returns v, the world has at most drawn orders. -/
def Quiet (w : World) (v : Value) (e : Ending) (w' : World) : Prop := e = .returned v ∧ ∃ n, w' = w.drewN n
theorem Quiet.below {w w' : World} {v : Value} {e : Ending} (h : Quiet w v e w') : e = .returned v ∧ Below w.heap.size w w' := by
  obtain ⟨he, n, rfl⟩ := h
  exact ⟨he, below_drewN (Below.refl _ _) n⟩

theorem quiet_below {P : Program} {f : FuncId} {args : Array Value} {w : World} {v : Value} (h : Calls P f args w (Quiet w v)) : Calls P f args w fun e w' => e = .returned v ∧ Below w.heap.size w w' := h.mono fun _ _ hq => hq.below

theorem take_next {α : Type} [DecidableEq α] {l l' : List α} {k : Nat} (hk : k < l.length) (hk' : k < l'.length) (h : l.take k = l'.take k) (e : l[k] = l'[k]) : l.take (k + 1) = l'.take (k + 1) := by
  rw [List.take_succ_eq_append_getElem hk, List.take_succ_eq_append_getElem hk', h, e]

set_option maxHeartbeats 400000 in
theorem eqByteS_any (v v' : Value) (l l' : List UInt8) (B B' : Nat) (w : World) (h : SlB w B v l) (h' : SlB w B' v' l') :
    Calls Tryd.prog 38 #[v, v'] w (Quiet w (.bool (l == l'))) := by
  obtain ⟨A, c, rfl, hc, hm, hcell⟩ := h.open_
  obtain ⟨A', c', rfl, hc', hm', hcell'⟩ := h'.open_
  unfold maxLen at hm hm'
  clear h h'
  by_cases hne : l.length = l'.length
  · have HE := Lib.hid hne
    have hb : ((l.length : Int) == (l'.length : Int)) = true := by rw [hne]; simp
    have hlen1 : l.length ≤ l'.length := by omega
    have hlen2 : l'.length ≤ l.length := by omega
    clear hne
    go_enter Tryd.func38, Tryd.ntmps38
    go_wp2
    go_loopw [5] (fun i wr => ∃ k n : Nat, k ≤ l.length ∧ i = .int .i64 k ∧ wr = w.drewN n ∧ l.take k = l'.take k) (fun i _ => l.length - (intOf i).toNat)
    case atStart => exact ⟨0, 0, Nat.zero_le _, rfl, rfl, rfl⟩
    case round =>
      obtain ⟨k, n, hk, rfl, rfl, ht⟩ := hrel
      have HT := Lib.hid ht
      clear ht
      by_cases hlt : k < l.length
      · obtain ⟨b, off, rfl, _, hc0⟩ := hcell k hlt
        obtain ⟨b', off', rfl, _, hc0'⟩ := hcell' k (by omega)
        have hlt' : k < l'.length := by omega
        clear hcell hcell'
        by_cases he : l[k] = l'[k]
        · have HX := Lib.hid (take_next hlt (by omega) HT.out he)
          have hbe : ((l[k].toNat : Int) == (l'[k].toNat : Int)) = true := by rw [he]; simp
          clear he
          go_wp2
          go_quiet (fail)
          go_wp2
          go_roundw
          case rel => exact ⟨k + 1, _, by omega, by go_num, rfl, HX.out⟩
          case measure => simp [intOf]; omega
        · have hbe : ((l[k].toNat : Int) == (l'[k].toNat : Int)) = false := by
            rw [beq_eq_false_iff_ne]; intro hx; exact he (UInt8.toNat_inj.1 (by omega))
          have HX := Lib.hid (show (l == l') = false by
            rw [beq_eq_false_iff_ne]; rintro rfl; exact he rfl)
          clear he
          go_wp2
          go_quiet (fail)
          go_wp2
          go_ret
          exact ⟨ret_bool HX.out.symm, _, World.drewN_drewN _ _ _⟩
      · have HX := Lib.hid (show (l == l') = true by
          have h1 := HT.out
          have h2 := HE.out
          rw [List.take_of_length_le (by omega), List.take_of_length_le (by omega)] at h1
          rw [h1]; simp)
        clear hcell hcell'
        go_wp2
        go_ret
        exact ⟨ret_bool HX.out.symm, _, rfl⟩
  · have hb : ((l.length : Int) == (l'.length : Int)) = false := by rw [beq_eq_false_iff_ne]; omega
    have HX := Lib.hid (show (l == l') = false by rw [beq_eq_false_iff_ne]; rintro rfl; exact hne rfl)
    clear hne hcell hcell'
    go_enter Tryd.func38, Tryd.ntmps38
    go_wp2
    go_ret
    exact ⟨ret_bool HX.out.symm, 0, rfl⟩

/-- The marks from k on. -/
def marks (k n : Nat) : List UInt8 := (List.range n).map fun i => UInt8.ofNat (k + i)
@[simp] theorem marks_length (k n : Nat) : (marks k n).length = n := by simp [marks]
theorem marks_at (k n i : Nat) (h : i < n) : (marks k n)[i]'(by simpa using h) = UInt8.ofNat (k + i) := by simp [marks]
theorem marks_u8 (k n i : Nat) (h : i < n) : (((marks k n)[i]'(by simpa using h)).toNat : Int) = ((k : Int) + i) % 256 := by rw [marks_at k n i h]; simp

/-- Of xs the first j replaced by the marks from k on. -/
def marked (xs : List Value) (k j : Nat) : List Value := u8s (marks k j) ++ xs.drop j
theorem marked_zero (xs : List Value) (k : Nat) : marked xs k 0 = xs := by simp [marked, marks, u8s]
theorem marked_all (xs : List Value) (k : Nat) : marked xs k xs.length = u8s (marks k xs.length) := by simp [marked]
theorem marked_length (xs : List Value) (k j : Nat) (h : j ≤ xs.length) : (marked xs k j).length = xs.length := by simp [marked]; omega
theorem marked_set (xs : List Value) (k j : Nat) (h : j < xs.length) : (marked xs k j).set j (.int .u8 (((k : Int) + j) % 256)) = marked xs k (j + 1) := by
  have e1 : marks k (j + 1) = marks k j ++ [UInt8.ofNat (k + j)] := by simp [marks, List.range_succ]
  have e2 : (.int .u8 (((k : Int) + j) % 256) : Value) = u8v (UInt8.ofNat (k + j)) := by simp [u8v]
  simp only [marked]
  rw [List.set_append_right _ _ (by simp)]
  simp only [u8s_length, marks_length, Nat.sub_self]
  rw [List.drop_eq_getElem_cons h, List.set_cons_zero, e1, u8s_append, e2]
  simp [u8s]

/-- The row that v owns is written, all else is as it was. -/
def Marked (w : World) (base : Nat) (E : TypeId) (size : Nat) (v : Value) (n : Nat) (xs : List Value) (r : Int) (e : Ending) (w' : World) : Prop :=
  e = .returned (.int .i64 r) ∧ w'.ownsRow base E size v n xs ∧ w.grownBy w' v.ownBlock

theorem own_u8 {w : World} {base : Nat} {v : Value} {l : List UInt8} (h : w.ownsRow base 5 1 v l.length (u8s l)) : SlB w w.heap.size v l := Sl.of_own h
end Go.Proofs.YtkfmdkogifmfmaaDoor
