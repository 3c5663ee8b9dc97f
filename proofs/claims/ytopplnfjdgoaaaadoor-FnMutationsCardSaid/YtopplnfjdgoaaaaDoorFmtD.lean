/- FormatInt and FormatMutation, spec and impl. Conditions: the integers fit an int; for impl: the table of powers of ten reads as laid. -/
import Derived.Test.YtopplnfjdgoaaaaDoorLiftD
import Derived.Test.YtopplnfjdgoaaaaDoorInts
import Derived.Test.YtopplnfjdgoaaaaDoorShelf
import Derived.Test.YtopplnfjdgoaaaaDoorOpen
import Derived.WalkSpells
import Derived.WalkLawsBesides
import Derived.Deep.RegionHeld3
import Derived.Sort.AtCall
namespace Go.Proofs.YtopplnfjdgoaaaaDoor
open Go.RowKit
theorem digs_dec (n : Nat) (h : 1 ≤ n) : digs n = Lib.decDigits n := by
  induction n using Nat.strongRecOn with
  | _ n ih =>
    rw [digs_pos (by omega), Lib.decDigits]
    by_cases h10 : n < 10
    · rw [dif_pos h10, show n / 10 = 0 by omega, digs_zero, show n % 10 = n by omega]
      rfl
    · rw [dif_neg h10, ih (n / 10) (by omega) (by omega)]
theorem fmt_itoa (n : Int) : fmtI n = Lib.itoa n := by
  unfold fmtI Lib.itoa
  by_cases hz : n = 0
  · subst hz
    rw [if_pos rfl, if_neg (by omega), Lib.decDigits]
    rfl
  · rw [if_neg hz]
    by_cases hn : n < 0
    · rw [if_pos hn, if_pos hn, digs_dec _ (by omega)]
    · rw [if_neg hn, if_neg hn, digs_dec _ (by omega)]
      congr 1
      omega
theorem fmtI_size (n : Int) (hn : InI64 n) : (str (fmtI n)).size ≤ 20 := by
  have h := digs_length n.natAbs 19 (by have := hn.1; have := hn.2; omega)
  rw [str_size]
  unfold fmtI
  split
  · simp
  · split
    · simp; omega
    · omega
theorem implFormatInt_any (n : Int) (w : World) (hn : InI64 n) (ht : Tab w) :
    Calls Tryd.prog 21 #[.int .i64 n] w fun e w' => e = .returned (.string (str (fmtI n))) ∧ Below w.heap.size w w' := by
  go_enter Tryd.func21, Tryd.ntmps21
  go_wp2_with fail
  refine (Tryd.strconv_Itoa n hn.1 hn.2 w ht.here).mono ?_
  rintro e w1 ⟨rfl, k, os, rfl⟩
  have H := Lib.hid (Lib.below_grow w.heap.size w (Nat.le_refl _) k os)
  go_wp2
  go_ret
  exact ⟨ret_str (by rw [fmt_itoa]; rfl), H.out⟩
def mutText (k : Int) (A B : ByteArray) : ByteArray :=
  if k = 1 then ⟨#[61]⟩ ++ A ++ ⟨#[58]⟩ ++ B else if k = 2 then ⟨#[43]⟩ ++ A ++ ⟨#[58]⟩ ++ B else if k = 3 then ⟨#[45]⟩ ++ A else ⟨#[63]⟩ ++ A ++ ⟨#[58]⟩ ++ B
set_option maxHeartbeats 2000000 in
theorem specFormatMutation_any (k p b : Int) (w : World) (hp : InI64 p) (hb : InI64 b) :
    Calls Tryd.prog 6 #[.agg #[.int .i64 k, .int .i64 p, .int .i64 b]] w fun e w' => e = .returned (.string (mutText k (str (fmtI p)) (str (fmtI b)))) ∧ Below w.heap.size w w' := by
  have hA : ∀ W, Below w.heap.size w W → Calls Tryd.prog 20 #[.int .i64 p] W fun e w' => e = .returned (.string (str (fmtI p))) ∧ Below W.heap.size W w' := fun W h => specFormatInt_any p W hp
  have hB : ∀ W, Below w.heap.size w W → Calls Tryd.prog 20 #[.int .i64 b] W fun e w' => e = .returned (.string (str (fmtI b))) ∧ Below W.heap.size W w' := fun W h => specFormatInt_any b W hb
  have zA := fmtI_size p hp
  have zB := fmtI_size b hb
  clear hp hb
  generalize str (fmtI p) = A at *
  generalize str (fmtI b) = B at *
  have HA := Lib.hid hA
  have HB := Lib.hid hB
  clear hA hB
  have q1 : ¬ (9223372036854775807 < 1 + A.size) := by omega
  have q2 : ¬ (9223372036854775807 < 1 + A.size + 1) := by omega
  have q3 : ¬ (9223372036854775807 < 1 + A.size + 1 + B.size) := by omega
  have b0 : Below w.heap.size w (w.alloc (.cells #[.int .i64 k, .int .i64 p, .int .i64 b] 25)) := (Below.refl _ _).alloc (Nat.le_refl _) _
  have k1 : (w.alloc (.cells #[.int .i64 k, .int .i64 p, .int .i64 b] 25)).cell? ⟨w.heap.size, 1, none⟩ = some (.int .i64 p) := by simp [go_sem]
  have k2 : (w.alloc (.cells #[.int .i64 k, .int .i64 p, .int .i64 b] 25)).cell? ⟨w.heap.size, 2, none⟩ = some (.int .i64 b) := by simp [go_sem]
  by_cases e1 : k = 1
  · subst e1
    have H := Lib.hid (show mutText 1 A B = ⟨#[61]⟩ ++ A ++ ⟨#[58]⟩ ++ B by unfold mutText; rw [if_pos rfl])
    go_enter Tryd.func6, Tryd.ntmps6
    go_wp2_with fail
    go_region_held3 (fun w9 => w9.cell? ⟨w.heap.size, 1, none⟩ = some (.int .i64 p) ∧ w9.cell? ⟨w.heap.size, 2, none⟩ = some (.int .i64 b))
      (first | exact ⟨k1, k2⟩ | exact ⟨cell_later bel1 k1, cell_later bel1 k2⟩ | exact ⟨cell_later bel2 (cell_later bel1 k1), cell_later bel2 (cell_later bel1 k2)⟩)
      (first
        | (go_at_call_has 20 p; refine (HA.out _ b0.drew).mono ?_; rintro e w1 ⟨rfl, bel1⟩; have b1 := below_step bel1 b0.drew)
        | (go_at_call_has 20 b; refine (HB.out _ b1).mono ?_; rintro e w2 ⟨rfl, bel2⟩; have b2 := below_step bel2 b1))
    all_goals (go_wp2; go_ret; exact ⟨ret_str (by rw [H.out]), b2⟩)
  · have f1 : (k == 1) = false := by rw [beq_eq_false_iff_ne]; exact e1
    by_cases e2 : k = 2
    · subst e2
      have H := Lib.hid (show mutText 2 A B = ⟨#[43]⟩ ++ A ++ ⟨#[58]⟩ ++ B by unfold mutText; rw [if_neg (by decide), if_pos rfl])
      go_enter Tryd.func6, Tryd.ntmps6
      go_wp2_with fail
      go_region_held3 (fun w9 => w9.cell? ⟨w.heap.size, 1, none⟩ = some (.int .i64 p) ∧ w9.cell? ⟨w.heap.size, 2, none⟩ = some (.int .i64 b))
        (first | exact ⟨k1, k2⟩ | exact ⟨cell_later bel1 k1, cell_later bel1 k2⟩ | exact ⟨cell_later bel2 (cell_later bel1 k1), cell_later bel2 (cell_later bel1 k2)⟩)
        (first
          | (go_at_call_has 20 p; refine (HA.out _ b0.drew).mono ?_; rintro e w1 ⟨rfl, bel1⟩; have b1 := below_step bel1 b0.drew)
          | (go_at_call_has 20 b; refine (HB.out _ b1).mono ?_; rintro e w2 ⟨rfl, bel2⟩; have b2 := below_step bel2 b1))
      all_goals (go_wp2; go_ret; exact ⟨ret_str (by rw [H.out]), b2⟩)
    · have f2 : (k == 2) = false := by rw [beq_eq_false_iff_ne]; exact e2
      by_cases e3 : k = 3
      · subst e3
        have H := Lib.hid (show mutText 3 A B = ⟨#[45]⟩ ++ A by unfold mutText; rw [if_neg (by decide), if_neg (by decide), if_pos rfl])
        go_enter Tryd.func6, Tryd.ntmps6
        go_wp2_with fail
        refine (HA.out _ b0).mono ?_
        rintro e w1 ⟨rfl, bel1⟩
        have b1 := below_step bel1 b0
        clear bel1 k1 k2 b0
        go_wp2
        go_ret
        exact ⟨ret_str (by rw [H.out]), b1⟩
      · have f3 : (k == 3) = false := by rw [beq_eq_false_iff_ne]; exact e3
        have H := Lib.hid (show mutText k A B = ⟨#[63]⟩ ++ A ++ ⟨#[58]⟩ ++ B by unfold mutText; rw [if_neg e1, if_neg e2, if_neg e3])
        go_enter Tryd.func6, Tryd.ntmps6
        go_wp2_with fail
        go_region_held3 (fun w9 => w9.cell? ⟨w.heap.size, 1, none⟩ = some (.int .i64 p) ∧ w9.cell? ⟨w.heap.size, 2, none⟩ = some (.int .i64 b))
          (first | exact ⟨k1, k2⟩ | exact ⟨cell_later bel1 k1, cell_later bel1 k2⟩ | exact ⟨cell_later bel2 (cell_later bel1 k1), cell_later bel2 (cell_later bel1 k2)⟩)
          (first
            | (go_at_call_has 20 p; refine (HA.out _ b0.drew).mono ?_; rintro e w1 ⟨rfl, bel1⟩; have b1 := below_step bel1 b0.drew)
            | (go_at_call_has 20 b; refine (HB.out _ b1).mono ?_; rintro e w2 ⟨rfl, bel2⟩; have b2 := below_step bel2 b1))
        all_goals (go_wp2; go_ret; exact ⟨ret_str (by rw [H.out]), b2⟩)
set_option maxHeartbeats 2000000 in
theorem implFormatMutation_any (k p b : Int) (w : World) (hp : InI64 p) (hb : InI64 b) (ht : Tab w) :
    Calls Tryd.prog 8 #[.agg #[.int .i64 k, .int .i64 p, .int .i64 b]] w fun e w' => e = .returned (.string (mutText k (str (fmtI p)) (str (fmtI b)))) ∧ Below w.heap.size w w' := by
  have hA : ∀ W, Below w.heap.size w W → Calls Tryd.prog 21 #[.int .i64 p] W fun e w' => e = .returned (.string (str (fmtI p))) ∧ Below W.heap.size W w' := fun W h => implFormatInt_any p W hp (tab_on ht h)
  have hB : ∀ W, Below w.heap.size w W → Calls Tryd.prog 21 #[.int .i64 b] W fun e w' => e = .returned (.string (str (fmtI b))) ∧ Below W.heap.size W w' := fun W h => implFormatInt_any b W hb (tab_on ht h)
  have zA := fmtI_size p hp
  have zB := fmtI_size b hb
  clear hp hb ht
  generalize str (fmtI p) = A at *
  generalize str (fmtI b) = B at *
  have HA := Lib.hid hA
  have HB := Lib.hid hB
  clear hA hB
  have q1 : ¬ (9223372036854775807 < 1 + A.size) := by omega
  have q2 : ¬ (9223372036854775807 < 1 + A.size + 1) := by omega
  have q3 : ¬ (9223372036854775807 < 1 + A.size + 1 + B.size) := by omega
  have b0 : Below w.heap.size w (w.alloc (.cells #[.int .i64 k, .int .i64 p, .int .i64 b] 25)) := (Below.refl _ _).alloc (Nat.le_refl _) _
  have k1 : (w.alloc (.cells #[.int .i64 k, .int .i64 p, .int .i64 b] 25)).cell? ⟨w.heap.size, 1, none⟩ = some (.int .i64 p) := by simp [go_sem]
  have k2 : (w.alloc (.cells #[.int .i64 k, .int .i64 p, .int .i64 b] 25)).cell? ⟨w.heap.size, 2, none⟩ = some (.int .i64 b) := by simp [go_sem]
  by_cases e1 : k = 1
  · subst e1
    have H := Lib.hid (show mutText 1 A B = ⟨#[61]⟩ ++ A ++ ⟨#[58]⟩ ++ B by unfold mutText; rw [if_pos rfl])
    go_enter Tryd.func8, Tryd.ntmps8
    go_wp2_with fail
    go_region_held3 (fun w9 => w9.cell? ⟨w.heap.size, 1, none⟩ = some (.int .i64 p) ∧ w9.cell? ⟨w.heap.size, 2, none⟩ = some (.int .i64 b))
      (first | exact ⟨k1, k2⟩ | exact ⟨cell_later bel1 k1, cell_later bel1 k2⟩ | exact ⟨cell_later bel2 (cell_later bel1 k1), cell_later bel2 (cell_later bel1 k2)⟩)
      (first
        | (go_at_call_has 21 p; refine (HA.out _ b0.drew).mono ?_; rintro e w1 ⟨rfl, bel1⟩; have b1 := below_step bel1 b0.drew)
        | (go_at_call_has 21 b; refine (HB.out _ b1).mono ?_; rintro e w2 ⟨rfl, bel2⟩; have b2 := below_step bel2 b1))
    all_goals (go_wp2; go_ret; exact ⟨ret_str (by rw [H.out]), b2⟩)
  · have f1 : (k == 1) = false := by rw [beq_eq_false_iff_ne]; exact e1
    by_cases e2 : k = 2
    · subst e2
      have H := Lib.hid (show mutText 2 A B = ⟨#[43]⟩ ++ A ++ ⟨#[58]⟩ ++ B by unfold mutText; rw [if_neg (by decide), if_pos rfl])
      go_enter Tryd.func8, Tryd.ntmps8
      go_wp2_with fail
      go_region_held3 (fun w9 => w9.cell? ⟨w.heap.size, 1, none⟩ = some (.int .i64 p) ∧ w9.cell? ⟨w.heap.size, 2, none⟩ = some (.int .i64 b))
        (first | exact ⟨k1, k2⟩ | exact ⟨cell_later bel1 k1, cell_later bel1 k2⟩ | exact ⟨cell_later bel2 (cell_later bel1 k1), cell_later bel2 (cell_later bel1 k2)⟩)
        (first
          | (go_at_call_has 21 p; refine (HA.out _ b0.drew).mono ?_; rintro e w1 ⟨rfl, bel1⟩; have b1 := below_step bel1 b0.drew)
          | (go_at_call_has 21 b; refine (HB.out _ b1).mono ?_; rintro e w2 ⟨rfl, bel2⟩; have b2 := below_step bel2 b1))
      all_goals (go_wp2; go_ret; exact ⟨ret_str (by rw [H.out]), b2⟩)
    · have f2 : (k == 2) = false := by rw [beq_eq_false_iff_ne]; exact e2
      by_cases e3 : k = 3
      · subst e3
        have H := Lib.hid (show mutText 3 A B = ⟨#[45]⟩ ++ A by unfold mutText; rw [if_neg (by decide), if_neg (by decide), if_pos rfl])
        go_enter Tryd.func8, Tryd.ntmps8
        go_wp2_with fail
        refine (HA.out _ b0).mono ?_
        rintro e w1 ⟨rfl, bel1⟩
        have b1 := below_step bel1 b0
        clear bel1 k1 k2 b0
        go_wp2
        go_ret
        exact ⟨ret_str (by rw [H.out]), b1⟩
      · have f3 : (k == 3) = false := by rw [beq_eq_false_iff_ne]; exact e3
        have H := Lib.hid (show mutText k A B = ⟨#[63]⟩ ++ A ++ ⟨#[58]⟩ ++ B by unfold mutText; rw [if_neg e1, if_neg e2, if_neg e3])
        go_enter Tryd.func8, Tryd.ntmps8
        go_wp2_with fail
        go_region_held3 (fun w9 => w9.cell? ⟨w.heap.size, 1, none⟩ = some (.int .i64 p) ∧ w9.cell? ⟨w.heap.size, 2, none⟩ = some (.int .i64 b))
          (first | exact ⟨k1, k2⟩ | exact ⟨cell_later bel1 k1, cell_later bel1 k2⟩ | exact ⟨cell_later bel2 (cell_later bel1 k1), cell_later bel2 (cell_later bel1 k2)⟩)
          (first
            | (go_at_call_has 21 p; refine (HA.out _ b0.drew).mono ?_; rintro e w1 ⟨rfl, bel1⟩; have b1 := below_step bel1 b0.drew)
            | (go_at_call_has 21 b; refine (HB.out _ b1).mono ?_; rintro e w2 ⟨rfl, bel2⟩; have b2 := below_step bel2 b1))
        all_goals (go_wp2; go_ret; exact ⟨ret_str (by rw [H.out]), b2⟩)
end Go.Proofs.YtopplnfjdgoaaaaDoor
