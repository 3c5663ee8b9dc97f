/- The walks of FindEntry, EntryAt and SmallestAround, spec and impl: the first or last entry that meets a test. Conditions: the slice reads as a list of entries whose numbers are ints. -/
import Derived.Test.YtilhdoedeiiilaaEntry
import Derived.Test.YtilhdoedeiiilaaOpenEntry
import Derived.WalkSpells
import Derived.WalkLawsBesides
import Derived.BigQuiet
import Derived.Deep.QuietTactic
import Derived.BigGuardPart
namespace Go.Proofs.Ytilhdoedeiiilaa
open Go.RowKit

/-- From k on, c numbers: the first that p takes, or -1. -/
def firstAux (p : Nat → Bool) : Nat → Nat → Int
  | 0, _ => -1
  | c + 1, k => if p k then k else firstAux p c (k + 1)
/-- Of the numbers below k the last that p takes, or -1. -/
def lastTo (p : Nat → Bool) : Nat → Int
  | 0 => -1
  | k + 1 => if p k then k else lastTo p k
theorem firstAux_yes {p : Nat → Bool} {n k : Nat} (h : k < n) (hp : p k = true) : firstAux p (n - k) k = k := by
  rw [show n - k = (n - k - 1) + 1 from by omega, firstAux, if_pos hp]
theorem firstAux_no {p : Nat → Bool} {n k : Nat} (h : k < n) (hp : p k = false) : firstAux p (n - k) k = firstAux p (n - (k + 1)) (k + 1) := by
  rw [show n - k = (n - (k + 1)) + 1 from by omega, firstAux, if_neg (by simp [hp])]
theorem firstAux_end {p : Nat → Bool} {n k : Nat} (h : ¬ k < n) : firstAux p (n - k) k = -1 := by
  rw [show n - k = 0 from by omega, firstAux]
theorem lastTo_yes {p : Nat → Bool} {k : Nat} (hp : p k = true) : lastTo p (k + 1) = k := by rw [lastTo, if_pos hp]
theorem lastTo_no {p : Nat → Bool} {k : Nat} (hp : p k = false) : lastTo p (k + 1) = lastTo p k := by rw [lastTo, if_neg (by simp [hp])]

def hit (q : Ent → Bool) (l : List Ent) (k : Nat) : Bool := (l[k]?.map q).getD false
theorem hit_at {q : Ent → Bool} {l : List Ent} {k : Nat} (h : k < l.length) : hit q l k = q l[k] := by simp [hit, h]

def pathIs (p : ByteArray) (e : Ent) : Bool := e.path.toList == p.toList

set_option maxHeartbeats 400000 in
theorem specFindEntry_any (v : Value) (l : List Ent) (p : ByteArray) (B : Nat) (w : World) (h : SlE w B v l) :
    Calls Try.prog 39 #[v, .string p] w fun e w' => e = .returned (.int .i64 (firstAux (hit (pathIs p) l) l.length 0)) ∧ w = w' := by
  obtain ⟨A, c, rfl, hc, hm, hcell⟩ := h.open_
  unfold maxLen at hm
  clear h
  go_enter Try.func39, Try.ntmps39
  go_wp2
  go_loop [5] (fun i => ∃ k : Nat, k ≤ l.length ∧ i = .int .i64 k ∧ firstAux (hit (pathIs p) l) l.length 0 = firstAux (hit (pathIs p) l) (l.length - k) k) (fun i => l.length - (intOf i).toNat)
  case atStart => exact ⟨0, Nat.zero_le _, rfl, rfl⟩
  case round =>
    obtain ⟨k, hk, rfl, hf⟩ := hrel
    have HF := Lib.hid hf
    clear hf
    by_cases hlt : k < l.length
    · obtain ⟨b, off, rfl, hbB, hc0, hc1, hc2, hc3⟩ := hcell k hlt
      clear hcell hc1 hc2 hc3
      cases hq : pathIs p l[k]
      · have HX := Lib.hid (HF.out.trans (firstAux_no hlt (by rw [hit_at hlt, hq])))
        have hb : (l[k].path.toList == p.toList) = false := hq
        clear hq
        go_wp2
        go_round
        case rel => exact ⟨k + 1, by omega, by go_num, HX.out⟩
        case measure => simp [intOf]; omega
      · have HX := Lib.hid (HF.out.trans (firstAux_yes hlt (by rw [hit_at hlt, hq])))
        have hb : (l[k].path.toList == p.toList) = true := hq
        clear hq
        go_wp2
        go_ret
        exact ⟨ret_int HX.out.symm, rfl⟩
    · have HX := Lib.hid (HF.out.trans (firstAux_end hlt))
      clear hcell
      go_wp2
      go_ret
      exact ⟨ret_int HX.out.symm, rfl⟩

set_option maxHeartbeats 400000 in
theorem FindEntry1_any (e : Ent) (p : ByteArray) (g : Nat) (w : World) (hp : w.cell? ⟨g, 0, none⟩ = some (.string p)) :
    Calls Try.prog 62 #[entV e, .pointer (some ⟨g, 0, none⟩)] w fun x w' => x = .returned (.bool (pathIs p e)) ∧ Below w.heap.size w w' := by
  unfold entV
  have hlt := World.block_lt_of_cell? w _ hp
  go_enter Try.func62, Try.ntmps62
  go_wp2
  go_ret
  exact ⟨rfl, (by repeat (first | exact Below.refl _ _ | assumption | refine Below.alloc ?_ (by simp <;> omega) _ | refine Below.setCell ?_ (by simp <;> omega) _ | refine Below.drew ?_ | refine below_drewN ?_ _))⟩

set_option maxHeartbeats 400000 in
theorem indexFuncFind_any (v : Value) (l : List Ent) (p : ByteArray) (g B : Nat) (w : World) (h : SlE w B v l) (hB : B ≤ w.heap.size) (hp : w.cell? ⟨g, 0, none⟩ = some (.string p)) :
    Calls Try.prog 61 #[v, .func (.func 62) #[] #[.pointer (some ⟨g, 0, none⟩)]] w fun e w' => e = .returned (.int .i64 (firstAux (hit (pathIs p) l) l.length 0)) ∧ Below w.heap.size w w' := by
  obtain ⟨A, c, rfl, hc, hm, hcell⟩ := h.open_
  unfold maxLen at hm
  clear h
  have hgl : g < w.heap.size := World.block_lt_of_cell? w _ hp
  go_enter Try.func61, Try.ntmps61
  go_wp2
  go_loopw [9] (fun i wr => ∃ k : Nat, k ≤ l.length ∧ i = .int .i64 k ∧ Below w.heap.size w wr ∧ firstAux (hit (pathIs p) l) l.length 0 = firstAux (hit (pathIs p) l) (l.length - k) k) (fun i _ => l.length - (intOf i).toNat)
  case atStart => exact ⟨0, Nat.zero_le _, rfl, Below.refl _ _, rfl⟩
  case round =>
    obtain ⟨k, hk, rfl, hb, hf⟩ := hrel
    have HF := Lib.hid hf
    clear hf
    by_cases hlt : k < l.length
    · obtain ⟨b, off, rfl, hbB, hc0, hc1, hc2, hc3⟩ := hcell k hlt
      have hd0 := cell_later hb hc0
      have hd1 := cell_later hb hc1
      have hd2 := cell_later hb hc2
      have hd3 := cell_later hb hc3
      have hpr := cell_later hb hp
      have hblt := World.block_lt_of_cell? wr _ hd0
      have hgr := World.block_lt_of_cell? wr _ hpr
      have hsz := hb.size
      clear hcell hc0 hc1 hc2 hc3
      go_wp2_with fail
      refine (FindEntry1_any l[k] p g _ (by go_simp)).mono ?_
      rintro e w2 ⟨rfl, hb1⟩
      have hb2 := below_step hb1 (hb.alloc (by omega) _)
      have HB := Lib.hid hb2
      clear hb1 hb2 hb hd0 hd1 hd2 hd3 hpr
      cases hq : pathIs p l[k]
      · have HX := Lib.hid (HF.out.trans (firstAux_no hlt (by rw [hit_at hlt, hq])))
        go_wp2
        go_roundw
        case rel => exact ⟨k + 1, by omega, by go_num, HB.out, HX.out⟩
        case measure => simp [intOf]; omega
      · have HX := Lib.hid (HF.out.trans (firstAux_yes hlt (by rw [hit_at hlt, hq])))
        go_wp2
        go_ret
        exact ⟨ret_int HX.out.symm, HB.out⟩
    · have HX := Lib.hid (HF.out.trans (firstAux_end hlt))
      clear hcell
      go_wp2
      go_ret
      exact ⟨ret_int HX.out.symm, hb⟩

set_option maxHeartbeats 400000 in
theorem implFindEntry_any (v : Value) (l : List Ent) (p : ByteArray) (B : Nat) (w : World) (h : SlE w B v l) (hB : B ≤ w.heap.size) :
    Calls Try.prog 41 #[v, .string p] w fun e w' => e = .returned (.int .i64 (firstAux (hit (pathIs p) l) l.length 0)) ∧ Below w.heap.size w w' := by
  have hmf : ∀ (fn : Fn) (first cap : Array Value) (w : World), (Instr.makeFunc fn first cap).run Try.prog w = .ok (.func fn first cap) w := fun _ _ _ _ => rfl
  go_enter Try.func41, Try.ntmps41
  go_wp2_with fail
  refine (indexFuncFind_any v l p w.heap.size B _ (h.below ((Below.refl _ _).alloc hB _)) (by simp; omega) (by simp [go_sem])).mono ?_
  rintro e w2 ⟨rfl, hb1⟩
  have HB := Lib.hid (below_step hb1 ((Below.refl w.heap.size w).alloc (Nat.le_refl _) _))
  clear hb1
  go_wp2
  go_ret
  exact ⟨rfl, HB.out⟩
end Go.Proofs.Ytilhdoedeiiilaa
