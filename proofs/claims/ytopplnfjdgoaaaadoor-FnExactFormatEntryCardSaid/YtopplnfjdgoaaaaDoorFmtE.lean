/- FormatEntry, spec and impl. Conditions: the integers fit an int, the path has at most 2^20 bytes; for impl: the table of powers of ten reads as laid. -/
import Derived.Test.YtopplnfjdgoaaaaDoorFmtD
import Derived.Test.YtopplnfjdgoaaaaDoorEntry
import Derived.Test.YtopplnfjdgoaaaaDoorOpenEntry
import Derived.Test.YtopplnfjdgoaaaaDoorOwn
import Derived.WalkSpells
import Derived.WalkLawsBesides
import Derived.Deep.RegionHeld3
import Derived.Sort.AtCall
namespace Go.Proofs.YtopplnfjdgoaaaaDoor
open Go.RowKit
def pText (s : ByteArray) : ByteArray := if s.toList == [] then ⟨#[46]⟩ else s
def entText (s A B : ByteArray) : ByteArray := pText s ++ ⟨#[32]⟩ ++ A ++ ⟨#[45]⟩ ++ B
theorem pathText_any (s : ByteArray) (w : World) :
    Calls Tryd.prog 22 #[.string s] w fun e w' => e = .returned (.string (pText s)) ∧ w = w' := by
  cases he : (s.toList == [])
  · have H := Lib.hid (show pText s = s by rw [pText, he]; rfl)
    go_enter Tryd.func22, Tryd.ntmps22
    go_wp2
    go_ret
    exact ⟨ret_str (by rw [H.out]), rfl⟩
  · have H := Lib.hid (show pText s = ⟨#[46]⟩ by rw [pText, he]; rfl)
    go_enter Tryd.func22, Tryd.ntmps22
    go_wp2
    go_ret
    exact ⟨ret_str (by rw [H.out]), rfl⟩
set_option maxHeartbeats 2000000 in
theorem specFormatEntry_any (s : ByteArray) (r p b : Int) (w : World) (hs : s.size ≤ 1048576) (hp : InI64 p) (hb : InI64 b) :
    Calls Tryd.prog 10 #[.agg #[.string s, .int .i64 r, .int .i64 p, .int .i64 b]] w fun e w' => e = .returned (.string (entText s (str (fmtI p)) (str (fmtI b)))) ∧ Below w.heap.size w w' := by
  have hA : ∀ W, Below w.heap.size w W → Calls Tryd.prog 20 #[.int .i64 p] W fun e w' => e = .returned (.string (str (fmtI p))) ∧ Below W.heap.size W w' := fun W h => specFormatInt_any p W hp
  have hB : ∀ W, Below w.heap.size w W → Calls Tryd.prog 20 #[.int .i64 b] W fun e w' => e = .returned (.string (str (fmtI b))) ∧ Below W.heap.size W w' := fun W h => specFormatInt_any b W hb
  have zA := fmtI_size p hp
  have zB := fmtI_size b hb
  clear hp hb
  generalize str (fmtI p) = A at *
  generalize str (fmtI b) = B at *
  have HA := Lib.hid hA
  have HB := Lib.hid hB
  clear hA hB
  obtain ⟨T, hT⟩ : ∃ T, T = pText s := ⟨_, rfl⟩
  have hTs : T.size ≤ 1048576 := by
    rw [hT]; unfold pText
    split
    · show 1 ≤ 1048576; omega
    · exact hs
  have q0 : ¬ (9223372036854775807 < T.size + 1) := by omega
  have q1 : ¬ (9223372036854775807 < T.size + 1 + A.size) := by omega
  have q2 : ¬ (9223372036854775807 < T.size + 1 + A.size + 1) := by omega
  have q3 : ¬ (9223372036854775807 < T.size + 1 + A.size + 1 + B.size) := by omega
  have H := Lib.hid (show entText s A B = T ++ ⟨#[32]⟩ ++ A ++ ⟨#[45]⟩ ++ B by rw [entText, hT])
  have b0 : Below w.heap.size w (w.alloc (.cells #[.string s, .int .i64 r, .int .i64 p, .int .i64 b] 32)) := (Below.refl _ _).alloc (Nat.le_refl _) _
  have k0 : (w.alloc (.cells #[.string s, .int .i64 r, .int .i64 p, .int .i64 b] 32)).cell? ⟨w.heap.size, 0, none⟩ = some (.string s) := by simp [go_sem]
  have k1 : (w.alloc (.cells #[.string s, .int .i64 r, .int .i64 p, .int .i64 b] 32)).cell? ⟨w.heap.size, 2, none⟩ = some (.int .i64 p) := by simp [go_sem]
  have k2 : (w.alloc (.cells #[.string s, .int .i64 r, .int .i64 p, .int .i64 b] 32)).cell? ⟨w.heap.size, 3, none⟩ = some (.int .i64 b) := by simp [go_sem]
  cases he : (s.toList == [])
  · have hTT : T = s := by rw [hT, pText, he]; rfl
    clear hT hTs
    subst hTT
    go_enter Tryd.func10, Tryd.ntmps10
    go_wp2_with fail
    go_region_held3 (fun w9 => w9.cell? ⟨w.heap.size, 0, none⟩ = some (.string T) ∧ w9.cell? ⟨w.heap.size, 2, none⟩ = some (.int .i64 p) ∧ w9.cell? ⟨w.heap.size, 3, none⟩ = some (.int .i64 b))
      (first | exact ⟨k0, k1, k2⟩ | exact ⟨cell_later bel1 k0, cell_later bel1 k1, cell_later bel1 k2⟩ | exact ⟨cell_later bel2 (cell_later bel1 k0), cell_later bel2 (cell_later bel1 k1), cell_later bel2 (cell_later bel1 k2)⟩)
      (first
        | (go_at_call_has 20 p; refine (HA.out _ b0.drew).mono ?_; rintro e w1 ⟨rfl, bel1⟩; have b1 := below_step bel1 b0.drew)
        | (go_at_call_has 20 b; refine (HB.out _ b1).mono ?_; rintro e w2 ⟨rfl, bel2⟩; have b2 := below_step bel2 b1))
    all_goals (go_wp2; go_ret; exact ⟨ret_str (by rw [H.out]), b2⟩)
  · have hTT : T = ⟨#[46]⟩ := by rw [hT, pText, he]; rfl
    clear hT hTs
    subst hTT
    have r0 : ¬ (9223372036854775807 < 1 + 1 + A.size) := by omega
    have r1 : ¬ (9223372036854775807 < 2 + A.size) := by omega
    have r2 : ¬ (9223372036854775807 < 2 + A.size + 1) := by omega
    have r3 : ¬ (9223372036854775807 < 2 + A.size + 1 + B.size) := by omega
    go_enter Tryd.func10, Tryd.ntmps10
    go_wp2_with fail
    go_region_held3 (fun w9 => w9.cell? ⟨w.heap.size, 0, none⟩ = some (.string s) ∧ w9.cell? ⟨w.heap.size, 2, none⟩ = some (.int .i64 p) ∧ w9.cell? ⟨w.heap.size, 3, none⟩ = some (.int .i64 b))
      (first | exact ⟨k0, k1, k2⟩ | exact ⟨cell_later bel1 k0, cell_later bel1 k1, cell_later bel1 k2⟩ | exact ⟨cell_later bel2 (cell_later bel1 k0), cell_later bel2 (cell_later bel1 k1), cell_later bel2 (cell_later bel1 k2)⟩)
      (first
        | (go_at_call_has 20 p; refine (HA.out _ b0.drew).mono ?_; rintro e w1 ⟨rfl, bel1⟩; have b1 := below_step bel1 b0.drew)
        | (go_at_call_has 20 b; refine (HB.out _ b1).mono ?_; rintro e w2 ⟨rfl, bel2⟩; have b2 := below_step bel2 b1))
    all_goals (go_wp2; go_ret; exact ⟨ret_str (by rw [H.out]), b2⟩)
set_option maxHeartbeats 2000000 in
theorem implFormatEntry_any (s : ByteArray) (r p b : Int) (w : World) (hs : s.size ≤ 1048576) (hp : InI64 p) (hb : InI64 b) (ht : Tab w) :
    Calls Tryd.prog 12 #[.agg #[.string s, .int .i64 r, .int .i64 p, .int .i64 b]] w fun e w' => e = .returned (.string (entText s (str (fmtI p)) (str (fmtI b)))) ∧ Below w.heap.size w w' := by
  have hA : ∀ W, Below w.heap.size w W → Calls Tryd.prog 21 #[.int .i64 p] W fun e w' => e = .returned (.string (str (fmtI p))) ∧ Below W.heap.size W w' := fun W h => implFormatInt_any p W hp (tab_on ht h)
  have hB : ∀ W, Below w.heap.size w W → Calls Tryd.prog 21 #[.int .i64 b] W fun e w' => e = .returned (.string (str (fmtI b))) ∧ Below W.heap.size W w' := fun W h => implFormatInt_any b W hb (tab_on ht h)
  have zA := fmtI_size p hp
  have zB := fmtI_size b hb
  clear hp hb ht
  generalize str (fmtI p) = A at *
  generalize str (fmtI b) = B at *
  have HA := Lib.hid hA
  have HB := Lib.hid hB
  clear hA hB
  obtain ⟨T, hT⟩ : ∃ T, T = pText s := ⟨_, rfl⟩
  have hTs : T.size ≤ 1048576 := by
    rw [hT]; unfold pText
    split
    · show 1 ≤ 1048576; omega
    · exact hs
  have q0 : ¬ (9223372036854775807 < T.size + 1) := by omega
  have q1 : ¬ (9223372036854775807 < T.size + 1 + A.size) := by omega
  have q2 : ¬ (9223372036854775807 < T.size + 1 + A.size + 1) := by omega
  have q3 : ¬ (9223372036854775807 < T.size + 1 + A.size + 1 + B.size) := by omega
  have H := Lib.hid (show entText s A B = T ++ ⟨#[32]⟩ ++ A ++ ⟨#[45]⟩ ++ B by rw [entText, hT])
  have b0 : Below w.heap.size w (w.alloc (.cells #[.string s, .int .i64 r, .int .i64 p, .int .i64 b] 32)) := (Below.refl _ _).alloc (Nat.le_refl _) _
  have k0 : (w.alloc (.cells #[.string s, .int .i64 r, .int .i64 p, .int .i64 b] 32)).cell? ⟨w.heap.size, 0, none⟩ = some (.string s) := by simp [go_sem]
  have k1 : (w.alloc (.cells #[.string s, .int .i64 r, .int .i64 p, .int .i64 b] 32)).cell? ⟨w.heap.size, 2, none⟩ = some (.int .i64 p) := by simp [go_sem]
  have k2 : (w.alloc (.cells #[.string s, .int .i64 r, .int .i64 p, .int .i64 b] 32)).cell? ⟨w.heap.size, 3, none⟩ = some (.int .i64 b) := by simp [go_sem]
  have HP := Lib.hid (fun W => pathText_any s W)
  rw [← hT] at HP
  clear hT hTs
  go_enter Tryd.func12, Tryd.ntmps12
  go_wp2_with fail
  go_region_held3 (fun w9 => w9.cell? ⟨w.heap.size, 0, none⟩ = some (.string s) ∧ w9.cell? ⟨w.heap.size, 2, none⟩ = some (.int .i64 p) ∧ w9.cell? ⟨w.heap.size, 3, none⟩ = some (.int .i64 b))
    (first | exact ⟨k0, k1, k2⟩ | exact ⟨cell_later bel1 k0, cell_later bel1 k1, cell_later bel1 k2⟩ | exact ⟨cell_later bel2 (cell_later bel1 k0), cell_later bel2 (cell_later bel1 k1), cell_later bel2 (cell_later bel1 k2)⟩)
    (first
      | (go_at_call 22; refine (HP.out _).mono ?_; rintro e w0 ⟨rfl, rfl⟩)
      | (go_at_call_has 21 p; refine (HA.out _ b0.drew).mono ?_; rintro e w1 ⟨rfl, bel1⟩; have b1 := below_step bel1 b0.drew)
      | (go_at_call_has 21 b; refine (HB.out _ b1).mono ?_; rintro e w2 ⟨rfl, bel2⟩; have b2 := below_step bel2 b1))
  all_goals (go_wp2; go_ret; exact ⟨ret_str (by rw [H.out]), b2⟩)
theorem szEnt_law {w0 w : World} (e : Ent) (ok : e.ok) (b : Below w0.heap.size w0 w) (n : Int) (h0 : 0 ≤ n) (h1 : n ≤ 1048576) :
    Calls Tryd.prog 9 #[.agg #[.string e.path, .int .i64 e.rule, .int .i64 e.start, .int .i64 e.stop], .int .i64 n] w (SzL (True ∧ e.path.size ≤ 1048576) n w) := by
  refine (szEntry_any e n w ok.1 h0 h1).mono ?_
  rintro x w' ⟨rfl, hb⟩
  refine ⟨_, rfl, hb, ?_⟩
  by_cases h : n - e.path.size < 0
  · rw [if_pos h]; exact .inl rfl
  · rw [if_neg h]; exact .inr ⟨by omega, by omega, trivial, by omega⟩
end Go.Proofs.YtopplnfjdgoaaaaDoor
