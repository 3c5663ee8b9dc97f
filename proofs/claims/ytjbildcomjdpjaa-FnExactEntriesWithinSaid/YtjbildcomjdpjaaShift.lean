/- The walks of ShiftEntries, spec and impl. Condition: the slice reads as a list of at most 2^20 entries. -/
import Derived.Test.YtjbildcomjdpjaaRows
import Derived.Test.YtjbildcomjdpjaaEntryS
import Derived.Test.YtjbildcomjdpjaaApp
import Derived.WalkSpells
import Derived.WalkLawsBesides
import Derived.BigQuiet
import Derived.Deep.QuietTactic
import Derived.Deep.RegionHeld3
namespace Go.Proofs.Ytjbildcomjdpjaa
open Go.RowKit

def shiftE (d : Int) (e : Ent) : Ent := ⟨e.path, e.rule, wrap64 (e.start + d), wrap64 (e.stop + d)⟩
theorem map_next {α β : Type} (f : α → β) (l : List α) (k : Nat) (h : k < l.length) : (l.take (k + 1)).map f = (l.take k).map f ++ [f l[k]] := by
  rw [List.take_succ_eq_append_getElem h, List.map_append]; rfl
theorem entsCells_snoc (a : List Ent) (e : Ent) : entsCells (a ++ [e]) = entsCells a ++ entCells e := by simp [entsCells]
theorem entCells_one (e : Ent) : ∀ u ∈ entCells e, u.oneCell' = true := by
  intro u hu; simp only [entCells, List.mem_cons, List.mem_nil_iff, or_false] at hu
  rcases hu with rfl | rfl | rfl | rfl <;> rfl
/-- A new block that holds one entry, as a slice. -/
theorem sl_ent_one {W : World} {e : Ent} {t : TypeId} {g : Nat} (hg : g = W.heap.size) : Sl (W.alloc (.cells #[.string e.path, .int .i64 e.rule, .int .i64 e.start, .int .i64 e.stop] t)) (W.heap.size + 1) 4 (.slice (some ⟨g, 0, none⟩) 1 1) 1 (entCells e) := by
  subst hg
  refine ⟨by simp [entCells], _, _, rfl, by simp, by simp [maxLen], fun _ => ⟨W.heap.size, 0, rfl, by omega, fun j u hu => ?_⟩⟩
  match j, hu with
  | 0, hu => simp only [entCells, List.getElem?_cons_zero, Option.some.injEq] at hu; subst hu; simp [go_sem]
  | 1, hu => simp only [entCells, List.getElem?_cons_succ, List.getElem?_cons_zero, Option.some.injEq] at hu; subst hu; simp [go_sem]
  | 2, hu => simp only [entCells, List.getElem?_cons_succ, List.getElem?_cons_zero, Option.some.injEq] at hu; subst hu; simp [go_sem]
  | 3, hu => simp only [entCells, List.getElem?_cons_succ, List.getElem?_cons_zero, Option.some.injEq] at hu; subst hu; simp [go_sem]
  | j + 4, hu => simp [entCells] at hu

set_option maxHeartbeats 1000000 in
set_option maxRecDepth 100000 in
theorem specShift_any (v : Value) (l : List Ent) (d : Int) (B : Nat) (w : World) (h : SlE w B v l) (hB : B ≤ w.heap.size) (hl : l.length ≤ 1048576) :
    Calls Try.prog 14 #[v, .int .i64 d] w (Fresh w 54 4 l.length (entsCells (l.map (shiftE d)))) := by
  obtain ⟨i0, hi, hz0, hz1, hz2⟩ := info_parts Try.info_entry
  obtain ⟨A, c, rfl, hc, hm, hcell⟩ := h.open_
  unfold maxLen at hm
  go_enter Try.func14, Try.ntmps14
  go_wp2
  go_loopw [5, 6, 7] (fun o i _ wr => ∃ k : Nat, k ≤ l.length ∧ i = .int .i64 k ∧ wr.ownsRow w.heap.size 54 4 o k (entsCells ((l.take k).map (shiftE d))) ∧ Below w.heap.size w wr) (fun _ i _ _ => l.length - (intOf i).toNat)
  case atStart => exact ⟨0, Nat.zero_le _, rfl, own_empty _ _ _, (Below.refl _ _).alloc (Nat.le_refl _) _⟩
  case round =>
    obtain ⟨k, hk, rfl, hown, hb⟩ := hrel
    by_cases hlt : k < l.length
    · obtain ⟨b, off, rfl, hbB, hc0, hc1, hc2, hc3⟩ := hcell k hlt
      have hd0 : wr.cell? ⟨b, off + k * 4, none⟩ = some (.string l[k].path) := (hb.cell (p := ⟨b, off + k * 4, none⟩) (by show b < _; omega)).trans hc0
      have hd1 : wr.cell? ⟨b, off + k * 4 + 1, none⟩ = some (.int .i64 l[k].rule) := (hb.cell (p := ⟨b, off + k * 4 + 1, none⟩) (by show b < _; omega)).trans hc1
      have hd2 : wr.cell? ⟨b, off + k * 4 + 2, none⟩ = some (.int .i64 l[k].start) := (hb.cell (p := ⟨b, off + k * 4 + 2, none⟩) (by show b < _; omega)).trans hc2
      have hd3 : wr.cell? ⟨b, off + k * 4 + 3, none⟩ = some (.int .i64 l[k].stop) := (hb.cell (p := ⟨b, off + k * 4 + 3, none⟩) (by show b < _; omega)).trans hc3
      clear hcell hc0 hc1 hc2 hc3
      have HE := Lib.hid (show entsCells ((l.take k).map (shiftE d)) ++ entCells (shiftE d l[k]) = entsCells ((l.take (k + 1)).map (shiftE d)) by rw [map_next _ _ _ hlt, entsCells_snoc])
      go_wp2_with (at_builtin; refine wpList_app _ rfl (.tmp 29) (.tmp 31) 24 rfl w.heap.size 54 i0 (.agg #[.string ⟨#[]⟩, .int .i64 0, .int .i64 0, .int .i64 0]) 4 40 Try.underlying24 hi hz0 hz1 hz2 rfl (by decide) _ k _ rfl (own_below hown (((Below.refl _ _).alloc (Nat.le_refl _) _).alloc (by simp) _) (Nat.le_refl _)) _ 1 _ (entCells (shiftE d l[k])) rfl (sl_ent_one (e := shiftE d l[k]) (by simp)) (entCells_one _) (by omega) (by unfold maxLen; omega) (by have := hb.size; simp; omega) ?_; intro v1 w1 own1 hg1 _)
      have hb1 := below_app hg1 (own_below hown (((Below.refl _ _).alloc (Nat.le_refl _) _).alloc (by simp) _) (Nat.le_refl _)) (Nat.le_refl _) (by have := hb.size; simp; omega) ((hb.alloc hb.size _).alloc (by have := hb.size; simp; omega) _)
      rw [HE.out] at own1
      have H := Lib.hid (And.intro own1 hb1)
      clear own1 hb1 hg1 hown hb hd0 hd1 hd2 hd3
      go_roundw
      case rel => exact ⟨k + 1, by omega, by go_num, H.out.1, H.out.2⟩
      case measure => simp [intOf]; omega
    · have hkl : k = l.length := by omega
      rw [hkl, List.take_length] at hown
      have H := Lib.hid (And.intro hown hb)
      clear hcell hkl hown hb
      go_wp2
      go_ret
      exact ⟨_, rfl, H.out.1, H.out.2⟩

theorem own_slice {w : World} {base : Nat} {e : TypeId} {size : Nat} {v : Value} {n : Nat} {xs : List Value} (h : w.ownsRow base e size v n xs) :
    ∃ A c, v = .slice A n c ∧ n ≤ c ∧ c ≤ maxLen ∧ (0 < n → ∃ g, A = some ⟨g, 0, none⟩ ∧ base ≤ g) := by
  rcases h.2 with ⟨rfl, rfl⟩ | ⟨g, cap, cur, rfl, hb, hg, hc, hm, _⟩
  · exact ⟨none, 0, rfl, Nat.le_refl _, Nat.zero_le _, fun h => absurd h (by omega)⟩
  · exact ⟨_, _, rfl, hc, hm, fun _ => ⟨g, rfl, hb⟩⟩
/-- Of the entries the first k shifted. -/
def mixE (d : Int) (l : List Ent) (k : Nat) : List Ent := (l.take k).map (shiftE d) ++ l.drop k
theorem mixE_split (d : Int) (l : List Ent) (k : Nat) (h : k < l.length) :
    entsCells (mixE d l k) = (entsCells ((l.take k).map (shiftE d)) ++ [.string l[k].path, .int .i64 l[k].rule]) ++ ([.int .i64 l[k].start, .int .i64 l[k].stop] ++ entsCells (l.drop (k + 1))) := by
  have e := List.drop_eq_getElem_cons h
  rw [mixE]
  generalize l.drop (k + 1) = S at *
  generalize l[k] = x at *
  rw [e]
  simp [entsCells, entCells]
theorem mixE_next (d : Int) (l : List Ent) (k : Nat) (h : k < l.length) :
    (entsCells ((l.take k).map (shiftE d)) ++ [.string l[k].path, .int .i64 l[k].rule]) ++ [.int .i64 (wrap64 (l[k].start + d)), .int .i64 (wrap64 (l[k].stop + d))] ++ ([Value.int .i64 l[k].start, .int .i64 l[k].stop] ++ entsCells (l.drop (k + 1))).drop 2 = entsCells (mixE d l (k + 1)) := by
  rw [mixE, map_next _ _ _ h]
  simp [entsCells, entCells, shiftE]
theorem mixE_zero (d : Int) (l : List Ent) : mixE d l 0 = l := by simp [mixE]
theorem mixE_all (d : Int) (l : List Ent) : mixE d l l.length = l.map (shiftE d) := by simp [mixE]

set_option maxHeartbeats 1000000 in
set_option maxRecDepth 100000 in
theorem implShift_any (v : Value) (l : List Ent) (d : Int) (B : Nat) (w : World) (h : SlE w B v l) (hB : B ≤ w.heap.size) (hl : l.length ≤ 1048576) :
    Calls Try.prog 16 #[v, .int .i64 d] w (Fresh w 54 4 l.length (entsCells (l.map (shiftE d)))) := by
  obtain ⟨i0, hi, hz0, hz1, hz2⟩ := info_parts Try.info_entry
  have h0 := h
  obtain ⟨A, c, rfl, hc, hm, hcell⟩ := h.open_
  unfold maxLen at hm
  clear hcell h
  have h1 : ∀ u ∈ entsCells l, u.oneCell' = true := by
    intro u hu; simp only [entsCells, List.mem_flatMap] at hu
    obtain ⟨e, _, he⟩ := hu; exact entCells_one e u he
  go_enter Try.func16, Try.ntmps16
  go_wp2_with (at_builtin; refine wpList_app _ rfl (.tmp 7) (.tmp 8) 24 rfl w.heap.size 54 i0 (.agg #[.string ⟨#[]⟩, .int .i64 0, .int .i64 0, .int .i64 0]) 4 40 Try.underlying24 hi hz0 hz1 hz2 rfl (by decide) _ 0 [] rfl (own_empty w _ _) B l.length _ (entsCells l) rfl (Sl.below h0 ((Below.refl _ _).alloc hB _)) h1 (by omega) (by unfold maxLen; omega) (by simp) ?_; intro v1 w1 own1 hg1 _; have own9 := own1; obtain ⟨A1, c1, rfl, hc1, hm1, hA1⟩ := own_slice own9; clear own9)
  have hb1 : Below w.heap.size w w1 := below_app (e := 54) (size := 4) hg1 (own_empty w _ _) (Nat.le_refl _) (by simp) ((Below.refl _ _).alloc (Nat.le_refl _) _)
  rw [Nat.zero_add, List.nil_append] at own1
  clear hg1 h1
  unfold maxLen at hm1
  obtain ⟨wo, hwo⟩ : ∃ wo : World, wo = w1 := ⟨_, rfl⟩
  subst hwo
  go_loopw [6, 12] (fun _ i wr => ∃ k : Nat, k ≤ l.length ∧ i = .int .i64 k ∧ wr.ownsRow w.heap.size 54 4 (.slice A1 l.length c1) l.length (entsCells (mixE d l k)) ∧ Below w.heap.size w wr) (fun _ i _ => l.length - (intOf i).toNat)
  case atStart => exact ⟨0, Nat.zero_le _, rfl, by rw [mixE_zero]; exact own1, hb1⟩
  case round =>
    obtain ⟨k, hk, rfl, hown, hb⟩ := hrel
    by_cases hlt : k < l.length
    · obtain ⟨g, rfl, hgb⟩ := hA1 (by omega)
      have hf2 := hown.frozenAt (k * 4 + 2)
      have hf3 := hown.frozenAt (k * 4 + 3)
      have hc0 := hown.cellAt (k * 4 + 2) (by omega)
      have hc1' := hown.cellAt (k * 4 + 3) (by omega)
      rw [mixE_split d l k hlt] at hc0 hc1'
      have e1 : (entsCells ((l.take k).map (shiftE d)) ++ [Value.string l[k].path, .int .i64 l[k].rule]).length = k * 4 + 2 := by
        simp [entsCells_length]; omega
      rw [List.getElem?_append_right (by omega), e1] at hc0 hc1'
      have hd2 : wr.cell? ⟨g, k * 4 + 2, none⟩ = some (.int .i64 l[k].start) := by rw [hc0, Nat.sub_self]; rfl
      have hd3 : wr.cell? ⟨g, k * 4 + 3, none⟩ = some (.int .i64 l[k].stop) := by rw [hc1', show k * 4 + 3 - (k * 4 + 2) = 1 by omega]; rfl
      have hp := hown
      rw [mixE_split d l k hlt] at hp
      have hp2 := own_putCells [.int .i64 (wrap64 (l[k].start + d)), .int .i64 (wrap64 (l[k].stop + d))] _ _ _ (by simp) hp
      have hpb := below_putCells (g := g) [.int .i64 (wrap64 (l[k].start + d)), .int .i64 (wrap64 (l[k].stop + d))] _ (k * 4 + 2) hb hgb
      rw [e1] at hp2
      have e2 := mixE_next d l k hlt
      simp only [List.length_cons, List.length_nil] at hp2
      rw [e2] at hp2
      have HP := Lib.hid (And.intro hp2 hpb)
      clear hp2 hpb hp e1 e2 hc0 hc1' hown hb own1 hb1 hA1
      go_wp2
      go_roundw
      case rel => exact ⟨k + 1, by omega, by go_num, HP.out.1, HP.out.2⟩
      case measure => simp [intOf]; omega
    · have hkl : k = l.length := by omega
      rw [hkl, mixE_all] at hown
      have H := Lib.hid (And.intro hown hb)
      clear hkl hown hb own1 hb1 hA1
      go_wp2
      go_ret
      exact ⟨_, rfl, H.out.1, H.out.2⟩
end Go.Proofs.Ytjbildcomjdpjaa
