/- The walks of UnchangedEntries and EntriesWithin, spec and impl, by selectEntries. Condition: the slice reads as a list of at most 2^20 entries. -/
import Derived.Test.YtjbildcomjdpjaaRows
import Derived.Test.YtjbildcomjdpjaaShift
import Derived.Test.YtjbildcomjdpjaaIsWithin
import Derived.WalkSpells
import Derived.WalkLawsBesides
import Derived.BigQuiet
import Derived.Deep.QuietTactic
import Derived.Deep.RegionHeld3
namespace Go.Proofs.Ytjbildcomjdpjaa
open Go.RowKit

theorem filter_yes {α : Type} {p : α → Bool} {l : List α} {k : Nat} (h : k < l.length) (hp : p l[k] = true) : (l.take (k + 1)).filter p = (l.take k).filter p ++ [l[k]] := by
  rw [List.take_succ_eq_append_getElem h, List.filter_append]; simp [hp]
theorem filter_no {α : Type} {p : α → Bool} {l : List α} {k : Nat} (h : k < l.length) (hp : p l[k] = false) : (l.take (k + 1)).filter p = (l.take k).filter p := by
  rw [List.take_succ_eq_append_getElem h, List.filter_append]; simp [hp]
theorem filter_le {α : Type} (p : α → Bool) (l : List α) (k : Nat) : ((l.take k).filter p).length ≤ k :=
  Nat.le_trans (List.length_filter_le _ _) (List.length_take_le _ _)

set_option maxHeartbeats 1000000 in
set_option maxRecDepth 100000 in
theorem select_unch (c0 : Value) (p : Ent → Bool) (v : Value) (l : List Ent) (B : Nat) (w : World) (h : SlE w B v l) (hB : B ≤ w.heap.size) (hl : l.length ≤ 1048576)
    (hF : ∀ e, e ∈ l → ∀ W, Below w.heap.size w W → Calls Try.prog 52 #[entV e, c0] W fun x w' => x = .returned (.bool (p e)) ∧ Below W.heap.size W w') :
    Calls Try.prog 51 #[v, .func (.func 52) #[] #[c0]] w (Fresh w 54 4 (l.filter p).length (entsCells (l.filter p))) := by
  obtain ⟨i0, hi, hz0, hz1, hz2⟩ := info_parts Try.info_entry
  obtain ⟨A, c, rfl, hc, hm, hcell⟩ := h.open_
  unfold maxLen at hm
  have HF := Lib.hid hF
  clear hF h
  go_enter Try.func51, Try.ntmps51
  go_wp2
  go_loopw [5, 7, 11] (fun o _ i wr => ∃ k n : Nat, k ≤ l.length ∧ i = .int .i64 k ∧ n ≤ k ∧ n = ((l.take k).filter p).length ∧ wr.ownsRow w.heap.size 54 4 o n (entsCells ((l.take k).filter p)) ∧ Below w.heap.size w wr) (fun _ _ i _ => l.length - (intOf i).toNat)
  case atStart => exact ⟨0, 0, Nat.zero_le _, rfl, Nat.le_refl _, rfl, own_empty _ _ _, (Below.refl _ _).alloc (Nat.le_refl _) _⟩
  case round =>
    obtain ⟨k, n, hk, rfl, hn, hne, hown, hb⟩ := hrel
    have HN := Lib.hid hne
    clear hne
    by_cases hlt : k < l.length
    · obtain ⟨b, off, rfl, hbB, hc0, hc1, hc2, hc3⟩ := hcell k hlt
      have hd0 : wr.cell? ⟨b, off + k * 4, none⟩ = some (.string l[k].path) := (hb.cell (p := ⟨b, off + k * 4, none⟩) (by show b < _; omega)).trans hc0
      have hd1 : wr.cell? ⟨b, off + k * 4 + 1, none⟩ = some (.int .i64 l[k].rule) := (hb.cell (p := ⟨b, off + k * 4 + 1, none⟩) (by show b < _; omega)).trans hc1
      have hd2 : wr.cell? ⟨b, off + k * 4 + 2, none⟩ = some (.int .i64 l[k].start) := (hb.cell (p := ⟨b, off + k * 4 + 2, none⟩) (by show b < _; omega)).trans hc2
      have hd3 : wr.cell? ⟨b, off + k * 4 + 3, none⟩ = some (.int .i64 l[k].stop) := (hb.cell (p := ⟨b, off + k * 4 + 3, none⟩) (by show b < _; omega)).trans hc3
      have hblt := World.block_lt_of_cell? wr _ hd0
      have hsz := hb.size
      clear hcell hc0 hc1 hc2 hc3
      have hbb := hb.alloc (o := .cells #[.string l[k].path, .int .i64 l[k].rule, .int .i64 l[k].start, .int .i64 l[k].stop] 54) hsz
      go_wp2_with fail
      refine (HF.out l[k] (List.getElem_mem hlt) _ hbb).mono ?_
      rintro e w2 ⟨rfl, hb1⟩
      have hc : w2.cell? ⟨wr.heap.size, 0, none⟩ = some (.string l[k].path) := cell_later hb1 (by simp [go_sem])
      have hc1 : w2.cell? ⟨wr.heap.size, 1, none⟩ = some (.int .i64 l[k].rule) := cell_later hb1 (by simp [go_sem])
      have hc2 : w2.cell? ⟨wr.heap.size, 2, none⟩ = some (.int .i64 l[k].start) := cell_later hb1 (by simp [go_sem])
      have hc3 : w2.cell? ⟨wr.heap.size, 3, none⟩ = some (.int .i64 l[k].stop) := cell_later hb1 (by simp [go_sem])
      have hb2 := below_step hb1 hbb
      have hown2 := own_below (own_below hown ((Below.refl _ _).alloc (Nat.le_refl _) (.cells #[.string l[k].path, .int .i64 l[k].rule, .int .i64 l[k].start, .int .i64 l[k].stop] 54)) (Nat.le_refl _)) hb1 (Nat.le_refl _)
      clear hd0 hd1 hd2 hd3 hown hb hb1 hbb
      cases hq : p l[k]
      · have HE := Lib.hid (filter_no hlt hq)
        clear hq
        have H := Lib.hid (And.intro hown2 hb2)
        clear hown2 hb2
        go_wp2
        go_roundw
        case rel => exact ⟨k + 1, n, by omega, by go_num, by omega, by rw [HE.out]; exact HN.out, by rw [HE.out]; exact H.out.1, H.out.2⟩
        case measure => simp [intOf]; omega
      · have HE := Lib.hid (filter_yes hlt hq)
        clear hq
        go_wp2_with (at_builtin; refine wpList_app _ rfl (.tmp 18) (.tmp 20) 24 rfl w.heap.size 54 i0 (.agg #[.string ⟨#[]⟩, .int .i64 0, .int .i64 0, .int .i64 0]) 4 40 Try.underlying24 hi hz0 hz1 hz2 rfl (by decide) _ n _ rfl (own_below hown2 ((Below.refl _ _).alloc (Nat.le_refl _) _) (Nat.le_refl _)) _ 1 _ (entCells l[k]) rfl (sl_ent_one (e := l[k]) (by simp)) (entCells_one _) (by omega) (by unfold maxLen; omega) (by have := hb2.size; simp; omega) ?_; intro v1 w1 own1 hg1 _)
        have hb3 := below_app hg1 (own_below hown2 ((Below.refl _ _).alloc (Nat.le_refl _) _) (Nat.le_refl _)) (Nat.le_refl _) (by have := hb2.size; simp; omega) (hb2.alloc hb2.size _)
        rw [← entsCells_snoc, ← HE.out] at own1
        have H := Lib.hid (And.intro own1 hb3)
        clear own1 hb3 hg1 hown2 hb2 hc hc1 hc2 hc3
        go_roundw
        case rel => exact ⟨k + 1, n + 1, by omega, by go_num, by omega, by rw [HE.out, List.length_append, ← HN.out]; rfl, H.out.1, H.out.2⟩
        case measure => simp [intOf]; omega
    · have hkl : k = l.length := by omega
      have hn2 := HN.out
      rw [hkl, List.take_length] at hown hn2
      rw [hn2] at hown
      have H := Lib.hid (And.intro hown hb)
      clear hcell hkl hown hb hn2 HN hn
      go_wp2
      go_ret
      exact ⟨_, rfl, H.out.1, H.out.2⟩

set_option maxHeartbeats 1000000 in
set_option maxRecDepth 100000 in
theorem select_within (c0 : Value) (p : Ent → Bool) (v : Value) (l : List Ent) (B : Nat) (w : World) (h : SlE w B v l) (hB : B ≤ w.heap.size) (hl : l.length ≤ 1048576)
    (hF : ∀ e, e ∈ l → ∀ W, Below w.heap.size w W → Calls Try.prog 54 #[entV e, c0] W fun x w' => x = .returned (.bool (p e)) ∧ Below W.heap.size W w') :
    Calls Try.prog 51 #[v, .func (.func 54) #[] #[c0]] w (Fresh w 54 4 (l.filter p).length (entsCells (l.filter p))) := by
  obtain ⟨i0, hi, hz0, hz1, hz2⟩ := info_parts Try.info_entry
  obtain ⟨A, c, rfl, hc, hm, hcell⟩ := h.open_
  unfold maxLen at hm
  have HF := Lib.hid hF
  clear hF h
  go_enter Try.func51, Try.ntmps51
  go_wp2
  go_loopw [5, 7, 11] (fun o _ i wr => ∃ k n : Nat, k ≤ l.length ∧ i = .int .i64 k ∧ n ≤ k ∧ n = ((l.take k).filter p).length ∧ wr.ownsRow w.heap.size 54 4 o n (entsCells ((l.take k).filter p)) ∧ Below w.heap.size w wr) (fun _ _ i _ => l.length - (intOf i).toNat)
  case atStart => exact ⟨0, 0, Nat.zero_le _, rfl, Nat.le_refl _, rfl, own_empty _ _ _, (Below.refl _ _).alloc (Nat.le_refl _) _⟩
  case round =>
    obtain ⟨k, n, hk, rfl, hn, hne, hown, hb⟩ := hrel
    have HN := Lib.hid hne
    clear hne
    by_cases hlt : k < l.length
    · obtain ⟨b, off, rfl, hbB, hc0, hc1, hc2, hc3⟩ := hcell k hlt
      have hd0 : wr.cell? ⟨b, off + k * 4, none⟩ = some (.string l[k].path) := (hb.cell (p := ⟨b, off + k * 4, none⟩) (by show b < _; omega)).trans hc0
      have hd1 : wr.cell? ⟨b, off + k * 4 + 1, none⟩ = some (.int .i64 l[k].rule) := (hb.cell (p := ⟨b, off + k * 4 + 1, none⟩) (by show b < _; omega)).trans hc1
      have hd2 : wr.cell? ⟨b, off + k * 4 + 2, none⟩ = some (.int .i64 l[k].start) := (hb.cell (p := ⟨b, off + k * 4 + 2, none⟩) (by show b < _; omega)).trans hc2
      have hd3 : wr.cell? ⟨b, off + k * 4 + 3, none⟩ = some (.int .i64 l[k].stop) := (hb.cell (p := ⟨b, off + k * 4 + 3, none⟩) (by show b < _; omega)).trans hc3
      have hblt := World.block_lt_of_cell? wr _ hd0
      have hsz := hb.size
      clear hcell hc0 hc1 hc2 hc3
      have hbb := hb.alloc (o := .cells #[.string l[k].path, .int .i64 l[k].rule, .int .i64 l[k].start, .int .i64 l[k].stop] 54) hsz
      go_wp2_with fail
      refine (HF.out l[k] (List.getElem_mem hlt) _ hbb).mono ?_
      rintro e w2 ⟨rfl, hb1⟩
      have hc : w2.cell? ⟨wr.heap.size, 0, none⟩ = some (.string l[k].path) := cell_later hb1 (by simp [go_sem])
      have hc1 : w2.cell? ⟨wr.heap.size, 1, none⟩ = some (.int .i64 l[k].rule) := cell_later hb1 (by simp [go_sem])
      have hc2 : w2.cell? ⟨wr.heap.size, 2, none⟩ = some (.int .i64 l[k].start) := cell_later hb1 (by simp [go_sem])
      have hc3 : w2.cell? ⟨wr.heap.size, 3, none⟩ = some (.int .i64 l[k].stop) := cell_later hb1 (by simp [go_sem])
      have hb2 := below_step hb1 hbb
      have hown2 := own_below (own_below hown ((Below.refl _ _).alloc (Nat.le_refl _) (.cells #[.string l[k].path, .int .i64 l[k].rule, .int .i64 l[k].start, .int .i64 l[k].stop] 54)) (Nat.le_refl _)) hb1 (Nat.le_refl _)
      clear hd0 hd1 hd2 hd3 hown hb hb1 hbb
      cases hq : p l[k]
      · have HE := Lib.hid (filter_no hlt hq)
        clear hq
        have H := Lib.hid (And.intro hown2 hb2)
        clear hown2 hb2
        go_wp2
        go_roundw
        case rel => exact ⟨k + 1, n, by omega, by go_num, by omega, by rw [HE.out]; exact HN.out, by rw [HE.out]; exact H.out.1, H.out.2⟩
        case measure => simp [intOf]; omega
      · have HE := Lib.hid (filter_yes hlt hq)
        clear hq
        go_wp2_with (at_builtin; refine wpList_app _ rfl (.tmp 18) (.tmp 20) 24 rfl w.heap.size 54 i0 (.agg #[.string ⟨#[]⟩, .int .i64 0, .int .i64 0, .int .i64 0]) 4 40 Try.underlying24 hi hz0 hz1 hz2 rfl (by decide) _ n _ rfl (own_below hown2 ((Below.refl _ _).alloc (Nat.le_refl _) _) (Nat.le_refl _)) _ 1 _ (entCells l[k]) rfl (sl_ent_one (e := l[k]) (by simp)) (entCells_one _) (by omega) (by unfold maxLen; omega) (by have := hb2.size; simp; omega) ?_; intro v1 w1 own1 hg1 _)
        have hb3 := below_app hg1 (own_below hown2 ((Below.refl _ _).alloc (Nat.le_refl _) _) (Nat.le_refl _)) (Nat.le_refl _) (by have := hb2.size; simp; omega) (hb2.alloc hb2.size _)
        rw [← entsCells_snoc, ← HE.out] at own1
        have H := Lib.hid (And.intro own1 hb3)
        clear own1 hb3 hg1 hown2 hb2 hc hc1 hc2 hc3
        go_roundw
        case rel => exact ⟨k + 1, n + 1, by omega, by go_num, by omega, by rw [HE.out, List.length_append, ← HN.out]; rfl, H.out.1, H.out.2⟩
        case measure => simp [intOf]; omega
    · have hkl : k = l.length := by omega
      have hn2 := HN.out
      rw [hkl, List.take_length] at hown hn2
      rw [hn2] at hown
      have H := Lib.hid (And.intro hown hb)
      clear hcell hkl hown hb hn2 HN hn
      go_wp2
      go_ret
      exact ⟨_, rfl, H.out.1, H.out.2⟩

/-- The entries at or within a path. -/
def isInE (p : ByteArray) (e : Ent) : Bool := withinB e.path.data.toList p.data.toList
/-- The entries that end at or before a place. -/
def endsBy (x : Int) (e : Ent) : Bool := decide (e.stop ≤ x)

set_option maxHeartbeats 1000000 in
set_option maxRecDepth 100000 in
theorem specUnchanged_any (v : Value) (l : List Ent) (x : Int) (B : Nat) (w : World) (h : SlE w B v l) (hB : B ≤ w.heap.size) (hl : l.length ≤ 1048576) :
    Calls Try.prog 20 #[v, .int .i64 x] w (Fresh w 54 4 (l.filter (endsBy x)).length (entsCells (l.filter (endsBy x)))) := by
  obtain ⟨i0, hi, hz0, hz1, hz2⟩ := info_parts Try.info_entry
  obtain ⟨A, c, rfl, hc, hm, hcell⟩ := h.open_
  unfold maxLen at hm
  clear h
  go_enter Try.func20, Try.ntmps20
  go_wp2
  go_loopw [5, 6] (fun o i wr => ∃ k n : Nat, k ≤ l.length ∧ i = .int .i64 k ∧ n ≤ k ∧ n = ((l.take k).filter (endsBy x)).length ∧ wr.ownsRow w.heap.size 54 4 o n (entsCells ((l.take k).filter (endsBy x))) ∧ Below w.heap.size w wr) (fun _ i _ => l.length - (intOf i).toNat)
  case atStart => exact ⟨0, 0, Nat.zero_le _, rfl, Nat.le_refl _, rfl, own_empty _ _ _, (Below.refl _ _).alloc (Nat.le_refl _) _⟩
  case round =>
    obtain ⟨k, n, hk, rfl, hn, hne, hown, hb⟩ := hrel
    have HN := Lib.hid hne
    clear hne
    by_cases hlt : k < l.length
    · obtain ⟨b, off, rfl, hbB, hc0, hc1, hc2, hc3⟩ := hcell k hlt
      have hd0 : wr.cell? ⟨b, off + k * 4, none⟩ = some (.string l[k].path) := (hb.cell (p := ⟨b, off + k * 4, none⟩) (by show b < _; omega)).trans hc0
      have hd1 : wr.cell? ⟨b, off + k * 4 + 1, none⟩ = some (.int .i64 l[k].rule) := (hb.cell (p := ⟨b, off + k * 4 + 1, none⟩) (by show b < _; omega)).trans hc1
      have hd2 : wr.cell? ⟨b, off + k * 4 + 2, none⟩ = some (.int .i64 l[k].start) := (hb.cell (p := ⟨b, off + k * 4 + 2, none⟩) (by show b < _; omega)).trans hc2
      have hd3 : wr.cell? ⟨b, off + k * 4 + 3, none⟩ = some (.int .i64 l[k].stop) := (hb.cell (p := ⟨b, off + k * 4 + 3, none⟩) (by show b < _; omega)).trans hc3
      have hblt := World.block_lt_of_cell? wr _ hd0
      have hsz := hb.size
      clear hcell hc0 hc1 hc2 hc3
      by_cases hq0 : l[k].stop ≤ x
      · have hq : endsBy x l[k] = true := decide_eq_true hq0
        have HE := Lib.hid (filter_yes hlt hq)
        clear hq
        go_wp2_with (at_builtin; refine wpList_app _ rfl (.tmp 21) (.tmp 26) 24 rfl w.heap.size 54 i0 (.agg #[.string ⟨#[]⟩, .int .i64 0, .int .i64 0, .int .i64 0]) 4 40 Try.underlying24 hi hz0 hz1 hz2 rfl (by decide) _ n _ rfl (own_below hown ((Below.refl _ _).alloc (Nat.le_refl _) _) (Nat.le_refl _)) _ 1 _ (entCells l[k]) rfl (sl_ent_one (e := l[k]) (by simp)) (entCells_one _) (by omega) (by unfold maxLen; omega) (by have := hb.size; simp; omega) ?_; intro v1 w1 own1 hg1 _)
        have hb1 := below_app hg1 (own_below hown ((Below.refl _ _).alloc (Nat.le_refl _) _) (Nat.le_refl _)) (Nat.le_refl _) (by have := hb.size; simp; omega) (hb.alloc hb.size _)
        rw [← entsCells_snoc, ← HE.out] at own1
        have H := Lib.hid (And.intro own1 hb1)
        clear own1 hb1 hg1 hown hb hd0 hd1 hd2 hd3
        go_roundw
        case rel => exact ⟨k + 1, n + 1, by omega, by go_num, by omega, by rw [HE.out, List.length_append, ← HN.out]; rfl, H.out.1, H.out.2⟩
        case measure => simp [intOf]; omega
      · have hq : endsBy x l[k] = false := decide_eq_false hq0
        have HE := Lib.hid (filter_no hlt hq)
        have H := Lib.hid (And.intro hown hb)
        clear hown hb hq
        go_wp2
        go_roundw
        case rel => exact ⟨k + 1, n, by omega, by go_num, by omega, by rw [HE.out]; exact HN.out, by rw [HE.out]; exact H.out.1, H.out.2⟩
        case measure => simp [intOf]; omega
    · have hkl : k = l.length := by omega
      have hn2 := HN.out
      rw [hkl, List.take_length] at hown hn2
      rw [hn2] at hown
      have H := Lib.hid (And.intro hown hb)
      clear hcell hkl hown hb hn2 HN hn
      go_wp2
      go_ret
      exact ⟨_, rfl, H.out.1, H.out.2⟩

set_option maxHeartbeats 1000000 in
set_option maxRecDepth 100000 in
theorem specWithin_any (v : Value) (l : List Ent) (p : ByteArray) (B : Nat) (w : World) (h : SlE w B v l) (hB : B ≤ w.heap.size) (hl : l.length ≤ 1048576) (hok : ∀ e ∈ l, e.path.size ≤ maxLen) (hp : p.size ≤ maxLen) :
    Calls Try.prog 22 #[v, .string p] w (Fresh w 54 4 (l.filter (isInE p)).length (entsCells (l.filter (isInE p)))) := by
  obtain ⟨i0, hi, hz0, hz1, hz2⟩ := info_parts Try.info_entry
  obtain ⟨A, c, rfl, hc, hm, hcell⟩ := h.open_
  unfold maxLen at hm
  clear h
  go_enter Try.func22, Try.ntmps22
  go_wp2
  go_loopw [5, 6] (fun o i wr => ∃ k n : Nat, k ≤ l.length ∧ i = .int .i64 k ∧ n ≤ k ∧ n = ((l.take k).filter (isInE p)).length ∧ wr.ownsRow w.heap.size 54 4 o n (entsCells ((l.take k).filter (isInE p))) ∧ Below w.heap.size w wr) (fun _ i _ => l.length - (intOf i).toNat)
  case atStart => exact ⟨0, 0, Nat.zero_le _, rfl, Nat.le_refl _, rfl, own_empty _ _ _, (Below.refl _ _).alloc (Nat.le_refl _) _⟩
  case round =>
    obtain ⟨k, n, hk, rfl, hn, hne, hown, hb⟩ := hrel
    have HN := Lib.hid hne
    clear hne
    by_cases hlt : k < l.length
    · obtain ⟨b, off, rfl, hbB, hc0, hc1, hc2, hc3⟩ := hcell k hlt
      have hd0 : wr.cell? ⟨b, off + k * 4, none⟩ = some (.string l[k].path) := (hb.cell (p := ⟨b, off + k * 4, none⟩) (by show b < _; omega)).trans hc0
      have hd1 : wr.cell? ⟨b, off + k * 4 + 1, none⟩ = some (.int .i64 l[k].rule) := (hb.cell (p := ⟨b, off + k * 4 + 1, none⟩) (by show b < _; omega)).trans hc1
      have hd2 : wr.cell? ⟨b, off + k * 4 + 2, none⟩ = some (.int .i64 l[k].start) := (hb.cell (p := ⟨b, off + k * 4 + 2, none⟩) (by show b < _; omega)).trans hc2
      have hd3 : wr.cell? ⟨b, off + k * 4 + 3, none⟩ = some (.int .i64 l[k].stop) := (hb.cell (p := ⟨b, off + k * 4 + 3, none⟩) (by show b < _; omega)).trans hc3
      have hblt := World.block_lt_of_cell? wr _ hd0
      have hsz := hb.size
      clear hcell hc0 hc1 hc2 hc3
      have hps := hok _ (List.getElem_mem hlt)
      cases hq : isInE p l[k]
      · have hq' : withinB l[k].path.data.toList p.data.toList = false := hq
        have HE := Lib.hid (filter_no hlt hq)
        have H := Lib.hid (And.intro hown hb)
        clear hown hb hq hok
        go_wp2_with (go_at_call 53; refine (specIsWithin_any l[k].path p _ hps hp).mono ?_; rintro e w9 ⟨rfl, rfl⟩)
        go_roundw
        case rel => exact ⟨k + 1, n, by omega, by go_num, by omega, by rw [HE.out]; exact HN.out, by rw [HE.out]; exact H.out.1, H.out.2⟩
        case measure => simp [intOf]; omega
      · have hq' : withinB l[k].path.data.toList p.data.toList = true := hq
        have HE := Lib.hid (filter_yes hlt hq)
        clear hq hok
        go_wp2_with (first | (go_at_call 53; refine (specIsWithin_any l[k].path p _ hps hp).mono ?_; rintro e w9 ⟨rfl, rfl⟩) | (at_builtin; refine wpList_app _ rfl (.tmp 21) (.tmp 26) 24 rfl w.heap.size 54 i0 (.agg #[.string ⟨#[]⟩, .int .i64 0, .int .i64 0, .int .i64 0]) 4 40 Try.underlying24 hi hz0 hz1 hz2 rfl (by decide) _ n _ rfl (own_below hown ((Below.refl _ _).alloc (Nat.le_refl _) _) (Nat.le_refl _)) _ 1 _ (entCells l[k]) rfl (sl_ent_one (e := l[k]) (by simp)) (entCells_one _) (by omega) (by unfold maxLen; omega) (by have := hb.size; simp; omega) ?_; intro v1 w1 own1 hg1 _))
        have hb1 := below_app hg1 (own_below hown ((Below.refl _ _).alloc (Nat.le_refl _) _) (Nat.le_refl _)) (Nat.le_refl _) (by have := hb.size; simp; omega) (hb.alloc hb.size _)
        rw [← entsCells_snoc, ← HE.out] at own1
        have H := Lib.hid (And.intro own1 hb1)
        clear own1 hb1 hg1 hown hb hd0 hd1 hd2 hd3
        go_roundw
        case rel => exact ⟨k + 1, n + 1, by omega, by go_num, by omega, by rw [HE.out, List.length_append, ← HN.out]; rfl, H.out.1, H.out.2⟩
        case measure => simp [intOf]; omega
    · have hkl : k = l.length := by omega
      have hn2 := HN.out
      rw [hkl, List.take_length] at hown hn2
      rw [hn2] at hown
      have H := Lib.hid (And.intro hown hb)
      clear hcell hkl hown hb hn2 HN hn
      go_wp2
      go_ret
      exact ⟨_, rfl, H.out.1, H.out.2⟩

theorem unch1_any (e : Ent) (x : Int) (g : Nat) (w : World) (hp : w.cell? ⟨g, 0, none⟩ = some (.int .i64 x)) :
    Calls Try.prog 52 #[entV e, .pointer (some ⟨g, 0, none⟩)] w fun r w' => r = .returned (.bool (endsBy x e)) ∧ Below w.heap.size w w' := by
  unfold entV
  have hlt := World.block_lt_of_cell? w _ hp
  go_enter Try.func52, Try.ntmps52
  go_wp2
  go_ret
  exact ⟨rfl, (by repeat (first | exact Below.refl _ _ | assumption | refine Below.alloc ?_ (by simp <;> omega) _ | refine Below.setCell ?_ (by simp <;> omega) _ | refine Below.drew ?_ | refine below_drewN ?_ _))⟩
theorem within1_any (e : Ent) (p : ByteArray) (g : Nat) (w : World) (he : e.path.size ≤ maxLen) (hs : p.size < 4611686018427387904) (hp : w.cell? ⟨g, 0, none⟩ = some (.string p)) :
    Calls Try.prog 54 #[entV e, .pointer (some ⟨g, 0, none⟩)] w fun r w' => r = .returned (.bool (isInE p e)) ∧ Below w.heap.size w w' := by
  unfold entV
  have hlt := World.block_lt_of_cell? w _ hp
  go_enter Try.func54, Try.ntmps54
  go_wp2_with (go_at_call 42; refine (implIsWithin_any e.path p _ he hs).mono ?_; rintro x w9 ⟨rfl, rfl⟩)
  go_ret
  exact ⟨rfl, (by repeat (first | exact Below.refl _ _ | assumption | refine Below.alloc ?_ (by simp <;> omega) _ | refine Below.setCell ?_ (by simp <;> omega) _ | refine Below.drew ?_ | refine below_drewN ?_ _))⟩

theorem implUnchanged_any (v : Value) (l : List Ent) (x : Int) (B : Nat) (w : World) (h : SlE w B v l) (hB : B ≤ w.heap.size) (hl : l.length ≤ 1048576) :
    Calls Try.prog 21 #[v, .int .i64 x] w (Fresh w 54 4 (l.filter (endsBy x)).length (entsCells (l.filter (endsBy x)))) := by
  have hmf : ∀ (fn : Fn) (first cap : Array Value) (w : World), (Instr.makeFunc fn first cap).run Try.prog w = .ok (.func fn first cap) w := fun _ _ _ _ => rfl
  go_enter Try.func21, Try.ntmps21
  go_wp2_with fail
  refine (select_unch _ (endsBy x) v l B _ (h.below ((Below.refl _ _).alloc hB _)) (by simp; omega) hl (fun e _ W hW => unch1_any e x _ W (cell_later hW (by simp [go_sem])))).mono ?_
  rintro e w2 ⟨v2, rfl, own2, hb2⟩
  have H := Lib.hid (And.intro (own_base (base' := w.heap.size) own2 (by simp)) (below_step hb2 ((Below.refl w.heap.size w).alloc (Nat.le_refl _) _)))
  clear own2 hb2
  go_wp2
  go_ret
  exact ⟨_, rfl, H.out.1, H.out.2⟩
theorem implWithin_any (v : Value) (l : List Ent) (p : ByteArray) (B : Nat) (w : World) (h : SlE w B v l) (hB : B ≤ w.heap.size) (hl : l.length ≤ 1048576) (hok : ∀ e ∈ l, e.path.size ≤ maxLen) (hp : p.size < 4611686018427387904) :
    Calls Try.prog 23 #[v, .string p] w (Fresh w 54 4 (l.filter (isInE p)).length (entsCells (l.filter (isInE p)))) := by
  have hmf : ∀ (fn : Fn) (first cap : Array Value) (w : World), (Instr.makeFunc fn first cap).run Try.prog w = .ok (.func fn first cap) w := fun _ _ _ _ => rfl
  go_enter Try.func23, Try.ntmps23
  go_wp2_with fail
  refine (select_within _ (isInE p) v l B _ (h.below ((Below.refl _ _).alloc hB _)) (by simp; omega) hl (fun e he W hW => within1_any e p _ W (hok e he) hp (cell_later hW (by simp [go_sem])))).mono ?_
  rintro e w2 ⟨v2, rfl, own2, hb2⟩
  have H := Lib.hid (And.intro (own_base (base' := w.heap.size) own2 (by simp)) (below_step hb2 ((Below.refl w.heap.size w).alloc (Nat.le_refl _) _)))
  clear own2 hb2
  go_wp2
  go_ret
  exact ⟨_, rfl, H.out.1, H.out.2⟩
end Go.Proofs.Ytjbildcomjdpjaa
