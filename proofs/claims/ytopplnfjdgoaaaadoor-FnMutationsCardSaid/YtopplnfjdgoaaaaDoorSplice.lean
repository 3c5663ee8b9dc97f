/- The walks of SpliceBytes, spec and impl: bytes replaced by others. Conditions: the slices read as lists, their lengths fit. -/
import Derived.Test.YtopplnfjdgoaaaaDoorRows
import Derived.Test.YtopplnfjdgoaaaaDoorApp
import Derived.WalkSpells
import Derived.WalkLawsBesides
import Derived.Deep.RegionHeld3
import Derived.IntWalk
namespace Go.Proofs.YtopplnfjdgoaaaaDoor
open Go.RowKit

def spliceOk (l : List UInt8) (p r : Int) : Prop := 0 ≤ p ∧ 0 ≤ r ∧ p + r ≤ l.length
def spliceL (l : List UInt8) (p r : Nat) (ins : List UInt8) : List UInt8 := l.take p ++ ins ++ l.drop (p + r)

/-- A new row of bytes and a bool. -/
def FreshB (w : World) (l : List UInt8) (b : Bool) (e : Ending) (w' : World) : Prop :=
  ∃ v, e = .returned (.tuple #[v, .bool b]) ∧ w'.ownsRow w.heap.size 5 1 v l.length (u8s l) ∧ Below w.heap.size w w'

set_option maxHeartbeats 2000000 in
set_option maxRecDepth 100000 in
theorem implSplice_no (v u : Value) (l : List UInt8) (p r : Int) (B : Nat) (w : World) (h : SlB w B v l) (hB : B ≤ w.heap.size) (hl : l.length ≤ 4194304) (hno : ¬ spliceOk l p r) (hp : -9223372036854775808 ≤ p ∧ p ≤ 9223372036854775807) (hr : -9223372036854775808 ≤ r ∧ r ≤ 9223372036854775807) :
    Calls Tryd.prog 28 #[v, .int .i64 p, .int .i64 r, u] w (FreshB w l false) := by
  obtain ⟨i0, hi, hz0, hz1, hz2⟩ := info_parts Tryd.info_u8
  have h0 := h
  obtain ⟨A, c, rfl, hc, hm, hcell⟩ := h.open_
  unfold maxLen at hm
  obtain ⟨hp0, hp1⟩ := hp
  obtain ⟨hr0, hr1⟩ := hr
  clear hcell h
  have hsl : Sl (w.alloc (.cells #[] 5)) B 1 (.slice A l.length c) l.length (u8s l) := Sl.below h0 ((Below.refl _ _).alloc hB _)
  have hno' : p < 0 ∨ r < 0 ∨ l.length < p + r := by unfold spliceOk at hno; omega
  clear hno h0
  by_cases c1 : p < 0
  · have d1 : decide (p < 0) = true := decide_eq_true c1
    clear hno'
    go_enter Tryd.func28, Tryd.ntmps28
    go_wp2_with (at_builtin; refine wpList_app _ rfl (.tmp 31) (.tmp 32) 35 rfl w.heap.size 5 i0 (.int .u8 0) 1 1 Tryd.underlying35 hi hz0 hz1 hz2 rfl (by decide) _ 0 [] rfl (own_empty w _ _) B l.length _ (u8s l) rfl hsl (u8s_one l) (by omega) (by unfold maxLen; omega) (by simp) ?_; intro v' w1 hown1 hg1 _)
    have hb := below_app_empty hg1
    rw [Nat.zero_add, List.nil_append] at hown1
    go_ret2
    exact ⟨v', rfl, hown1, hb⟩
  have d1 : decide (p < 0) = false := decide_eq_false c1
  by_cases c2 : r < 0
  · have d2 : decide (r < 0) = true := decide_eq_true c2
    clear hno'
    go_enter Tryd.func28, Tryd.ntmps28
    go_wp2_with (at_builtin; refine wpList_app _ rfl (.tmp 31) (.tmp 32) 35 rfl w.heap.size 5 i0 (.int .u8 0) 1 1 Tryd.underlying35 hi hz0 hz1 hz2 rfl (by decide) _ 0 [] rfl (own_empty w _ _) B l.length _ (u8s l) rfl hsl (u8s_one l) (by omega) (by unfold maxLen; omega) (by simp) ?_; intro v' w1 hown1 hg1 _)
    have hb := below_app_empty hg1
    rw [Nat.zero_add, List.nil_append] at hown1
    go_ret2
    exact ⟨v', rfl, hown1, hb⟩
  have d2 : decide (r < 0) = false := decide_eq_false c2
  by_cases c3 : (l.length : Int) < p
  · have d3 : decide ((l.length : Int) < p) = true := decide_eq_true c3
    clear hno'
    go_enter Tryd.func28, Tryd.ntmps28
    go_wp2_with (at_builtin; refine wpList_app _ rfl (.tmp 31) (.tmp 32) 35 rfl w.heap.size 5 i0 (.int .u8 0) 1 1 Tryd.underlying35 hi hz0 hz1 hz2 rfl (by decide) _ 0 [] rfl (own_empty w _ _) B l.length _ (u8s l) rfl hsl (u8s_one l) (by omega) (by unfold maxLen; omega) (by simp) ?_; intro v' w1 hown1 hg1 _)
    have hb := below_app_empty hg1
    rw [Nat.zero_add, List.nil_append] at hown1
    go_ret2
    exact ⟨v', rfl, hown1, hb⟩
  have d3 : decide ((l.length : Int) < p) = false := decide_eq_false c3
  · have d4 : decide ((l.length : Int) - p < r) = true := decide_eq_true (by omega)
    clear hno'
    go_enter Tryd.func28, Tryd.ntmps28
    go_wp2_with (at_builtin; refine wpList_app _ rfl (.tmp 31) (.tmp 32) 35 rfl w.heap.size 5 i0 (.int .u8 0) 1 1 Tryd.underlying35 hi hz0 hz1 hz2 rfl (by decide) _ 0 [] rfl (own_empty w _ _) B l.length _ (u8s l) rfl hsl (u8s_one l) (by omega) (by unfold maxLen; omega) (by simp) ?_; intro v' w1 hown1 hg1 _)
    have hb := below_app_empty hg1
    rw [Nat.zero_add, List.nil_append] at hown1
    go_ret2
    exact ⟨v', rfl, hown1, hb⟩

set_option maxHeartbeats 2000000 in
set_option maxRecDepth 100000 in
theorem specSplice_no (v u : Value) (l : List UInt8) (p r : Int) (B : Nat) (w : World) (h : SlB w B v l) (hB : B ≤ w.heap.size) (hl : l.length ≤ 4194304) (hno : ¬ spliceOk l p r) (hp : -9223372036854775808 ≤ p ∧ p ≤ 9223372036854775807) (hr : -9223372036854775808 ≤ r ∧ r ≤ 9223372036854775807) :
    Calls Tryd.prog 31 #[v, .int .i64 p, .int .i64 r, u] w (FreshB w l false) := by
  obtain ⟨i0, hi, hz0, hz1, hz2⟩ := info_parts Tryd.info_u8
  have h0 := h
  obtain ⟨A, c, rfl, hc, hm, hcell⟩ := h.open_
  unfold maxLen at hm
  obtain ⟨hp0, hp1⟩ := hp
  obtain ⟨hr0, hr1⟩ := hr
  clear hcell h
  have hsl : Sl (w.alloc (.cells #[] 5)) B 1 (.slice A l.length c) l.length (u8s l) := Sl.below h0 ((Below.refl _ _).alloc hB _)
  have hno' : p < 0 ∨ r < 0 ∨ l.length < p + r := by unfold spliceOk at hno; omega
  clear hno h0
  by_cases c1 : p < 0
  · have d1 : decide (p < 0) = true := decide_eq_true c1
    clear hno'
    go_enter Tryd.func31, Tryd.ntmps31
    go_wp2_with (at_builtin; refine wpList_app _ rfl (.tmp 30) (.tmp 31) 35 rfl w.heap.size 5 i0 (.int .u8 0) 1 1 Tryd.underlying35 hi hz0 hz1 hz2 rfl (by decide) _ 0 [] rfl (own_empty w _ _) B l.length _ (u8s l) rfl hsl (u8s_one l) (by omega) (by unfold maxLen; omega) (by simp) ?_; intro v' w1 hown1 hg1 _)
    have hb := below_app_empty hg1
    rw [Nat.zero_add, List.nil_append] at hown1
    go_ret2
    exact ⟨v', rfl, hown1, hb⟩
  have d1 : decide (p < 0) = false := decide_eq_false c1
  by_cases c2 : r < 0
  · have d2 : decide (r < 0) = true := decide_eq_true c2
    clear hno'
    go_enter Tryd.func31, Tryd.ntmps31
    go_wp2_with (at_builtin; refine wpList_app _ rfl (.tmp 30) (.tmp 31) 35 rfl w.heap.size 5 i0 (.int .u8 0) 1 1 Tryd.underlying35 hi hz0 hz1 hz2 rfl (by decide) _ 0 [] rfl (own_empty w _ _) B l.length _ (u8s l) rfl hsl (u8s_one l) (by omega) (by unfold maxLen; omega) (by simp) ?_; intro v' w1 hown1 hg1 _)
    have hb := below_app_empty hg1
    rw [Nat.zero_add, List.nil_append] at hown1
    go_ret2
    exact ⟨v', rfl, hown1, hb⟩
  have d2 : decide (r < 0) = false := decide_eq_false c2
  by_cases c3 : (l.length : Int) < r
  · have d3 : decide ((l.length : Int) < r) = true := decide_eq_true c3
    clear hno'
    go_enter Tryd.func31, Tryd.ntmps31
    go_wp2_with (at_builtin; refine wpList_app _ rfl (.tmp 30) (.tmp 31) 35 rfl w.heap.size 5 i0 (.int .u8 0) 1 1 Tryd.underlying35 hi hz0 hz1 hz2 rfl (by decide) _ 0 [] rfl (own_empty w _ _) B l.length _ (u8s l) rfl hsl (u8s_one l) (by omega) (by unfold maxLen; omega) (by simp) ?_; intro v' w1 hown1 hg1 _)
    have hb := below_app_empty hg1
    rw [Nat.zero_add, List.nil_append] at hown1
    go_ret2
    exact ⟨v', rfl, hown1, hb⟩
  have d3 : decide ((l.length : Int) < r) = false := decide_eq_false c3
  · have d4 : decide ((l.length : Int) - r < p) = true := decide_eq_true (by omega)
    clear hno'
    go_enter Tryd.func31, Tryd.ntmps31
    go_wp2_with (at_builtin; refine wpList_app _ rfl (.tmp 30) (.tmp 31) 35 rfl w.heap.size 5 i0 (.int .u8 0) 1 1 Tryd.underlying35 hi hz0 hz1 hz2 rfl (by decide) _ 0 [] rfl (own_empty w _ _) B l.length _ (u8s l) rfl hsl (u8s_one l) (by omega) (by unfold maxLen; omega) (by simp) ?_; intro v' w1 hown1 hg1 _)
    have hb := below_app_empty hg1
    rw [Nat.zero_add, List.nil_append] at hown1
    go_ret2
    exact ⟨v', rfl, hown1, hb⟩


set_option maxHeartbeats 2000000 in
set_option maxRecDepth 100000 in
theorem implSplice_yes (v u : Value) (l ins : List UInt8) (p r : Nat) (B : Nat) (w : World) (h : SlB w B v l) (hu : SlB w B u ins) (hB : B ≤ w.heap.size) (hl : l.length ≤ 4194304) (hins : ins.length ≤ 4194304) (hok : p + r ≤ l.length) :
    Calls Tryd.prog 28 #[v, .int .i64 p, .int .i64 r, u] w (FreshB w (spliceL l p r ins) true) := by
  obtain ⟨i0, hi, hz0, hz1, hz2⟩ := info_parts Tryd.info_u8
  have h0 := h
  have hu0 := hu
  obtain ⟨A, c, rfl, hc, hm, hcell⟩ := h.open_
  obtain ⟨A', c', rfl, hc', hm', hcell'⟩ := hu.open_
  have hm0 := hm
  unfold maxLen at hm hm'
  clear hcell h hcell' hu
  have d1 : decide ((p : Int) < 0) = false := decide_eq_false (by omega)
  have d2 : decide ((r : Int) < 0) = false := decide_eq_false (by omega)
  have d3 : decide ((l.length : Int) < p) = false := decide_eq_false (by omega)
  have d4 : decide ((l.length : Int) - p < r) = false := decide_eq_false (by omega)
  have hx1 : Sl (w.alloc (.cells #[] 5)) B 1 (.slice (cutA A p 0 1) p p) p (u8s (l.take p)) :=
    (SlB.below h0 ((Below.refl _ _).alloc hB (.cells #[] 5))).cut 0 p p (Nat.zero_le _) (by omega) (Nat.le_refl _) (by unfold maxLen; omega)
  have hc1 := run_cutHM (P := Tryd.prog) Tryd.underlying35 Tryd.sizeOf5 A l.length c p p p p rfl rfl (Nat.le_refl _) (by omega)
  have hc2 := run_cut3 (P := Tryd.prog) Tryd.underlying35 Tryd.sizeOf5 A l.length c ((p : Int) + r) l.length l.length (p + r) l.length l.length (by omega) rfl rfl hok (Nat.le_refl _) hc
  have HF := Lib.hid (show u8s (l.take p) ++ u8s ins ++ u8s ((l.drop (p + r)).take (l.length - (p + r))) = u8s (spliceL l p r ins) by
    have e : (l.drop (p + r)).take (l.length - (p + r)) = l.drop (p + r) := List.take_of_length_le (by simp)
    rw [e, ← u8s_append, ← u8s_append, spliceL])
  have HL := Lib.hid (show p + ins.length + (l.length - (p + r)) = (spliceL l p r ins).length by simp [spliceL]; omega)
  go_enter Tryd.func28, Tryd.ntmps28
  go_wp2_with (first | (at_builtin; refine wpList_app _ rfl (.tmp 34) (.tmp 38) 35 rfl w.heap.size 5 i0 (.int .u8 0) 1 1 Tryd.underlying35 hi hz0 hz1 hz2 rfl (by decide) _ 0 [] rfl (own_empty w _ _) B p _ (u8s (l.take p)) rfl hx1 (u8s_one _) (by omega) (by unfold maxLen; omega) (by simp) ?_; intro v1 w1 hown1 hg1 _; have hb1 := below_app_empty hg1; rw [Nat.zero_add, List.nil_append] at hown1; have hu1 : Sl w1 B 1 _ _ _ := Sl.below hu0 (hb1.mono hB); clear hg1 hx1) | (at_builtin; refine wpList_app _ rfl (.tmp 40) (.tmp 41) 35 rfl w.heap.size 5 i0 (.int .u8 0) 1 1 Tryd.underlying35 hi hz0 hz1 hz2 rfl (by decide) _ p (u8s (l.take p)) rfl hown1 B ins.length _ (u8s ins) rfl hu1 (u8s_one _) (by omega) (by unfold maxLen; omega) hb1.size ?_; intro v2 w2 hown2 hg2 _; have hb2 := below_app hg2 hown1 (Nat.le_refl _) hb1.size hb1; have hv2 := (SlB.below h0 (hb2.mono hB)).cut (p + r) l.length l.length hok (Nat.le_refl _) (Nat.le_refl _) (by unfold maxLen; omega); clear hg2 hu1 hb1 hown1) | (at_builtin; refine wpList_app _ rfl (.tmp 43) (.tmp 52) 35 rfl w.heap.size 5 i0 (.int .u8 0) 1 1 Tryd.underlying35 hi hz0 hz1 hz2 rfl (by decide) _ _ _ rfl hown2 B (l.length - (p + r)) _ _ rfl hv2 (u8s_one _) (by omega) (by unfold maxLen; omega) hb2.size ?_; intro v3 w3 hown3 hg3 _; have hb3 := below_app hg3 hown2 (Nat.le_refl _) hb2.size hb2; clear hg3 hv2 hb2 hown2))
  rw [HF.out, HL.out] at hown3
  go_ret2
  exact ⟨v3, rfl, hown3, hb3⟩

set_option maxHeartbeats 2000000 in
set_option maxRecDepth 100000 in
theorem specSplice_yes (v u : Value) (l ins : List UInt8) (p r : Nat) (B : Nat) (w : World) (h : SlB w B v l) (hu : SlB w B u ins) (hB : B ≤ w.heap.size) (hl : l.length ≤ 4194304) (hins : ins.length ≤ 4194304) (hok : p + r ≤ l.length) :
    Calls Tryd.prog 31 #[v, .int .i64 p, .int .i64 r, u] w (FreshB w (spliceL l p r ins) true) := by
  obtain ⟨i0, hi, hz0, hz1, hz2⟩ := info_parts Tryd.info_u8
  have h0 := h
  have hu0 := hu
  obtain ⟨A, c, rfl, hc, hm, hcell⟩ := h.open_
  obtain ⟨A', c', rfl, hc', hm', hcell'⟩ := hu.open_
  unfold maxLen at hm hm'
  clear hcell h hcell' hu
  have d1 : decide ((p : Int) < 0) = false := decide_eq_false (by omega)
  have d2 : decide ((r : Int) < 0) = false := decide_eq_false (by omega)
  have d3 : decide ((l.length : Int) < r) = false := decide_eq_false (by omega)
  have d4 : decide ((l.length : Int) - r < p) = false := decide_eq_false (by omega)
  have hc1 := run_cutH (P := Tryd.prog) Tryd.underlying35 Tryd.sizeOf5 A l.length c p p rfl (by omega)
  have hc2 := run_cutL (P := Tryd.prog) Tryd.underlying35 Tryd.sizeOf5 A l.length c ((p : Int) + r) (p + r) (by omega) hok
  have HF := Lib.hid (show u8s ((l.drop 0).take (p - 0)) ++ u8s ins ++ u8s ((l.drop (p + r)).take (l.length - (p + r))) = u8s (spliceL l p r ins) by
    have e : (l.drop (p + r)).take (l.length - (p + r)) = l.drop (p + r) := List.take_of_length_le (by simp)
    rw [e, ← u8s_append, ← u8s_append, spliceL]; simp)
  have HL := Lib.hid (show p - 0 + ins.length + (l.length - (p + r)) = (spliceL l p r ins).length by simp [spliceL]; omega)
  have hsum : IntKind.i64.wrap ((p : Int) + r) = (p : Int) + r := IntWalk.i64_in _ (by omega)
  have HX1 := Lib.hid (SlB.cut h0 0 p c (Nat.zero_le _) (by omega) (by omega) (by unfold maxLen; omega))
  have HX2 := Lib.hid (SlB.cut h0 (p + r) l.length c hok (Nat.le_refl _) hc (by unfold maxLen; omega))
  have HU := Lib.hid hu0
  clear h0 hu0
  go_enter Tryd.func31, Tryd.ntmps31
  go_wp2_with fail
  go_region_held3 (fun w' => Below w.heap.size w w')
    (first | exact Below.refl _ _ | exact (Below.refl _ _).drew | exact ((Below.refl _ _).alloc (Nat.le_refl _) _).drew | exact hb1 | exact hb2 | exact hb3)
    (first
      | (refine step_app (by rfl) (.tmp 33) (.tmp 36) 35 rfl w.heap.size 5 i0 (.int .u8 0) 1 1 Tryd.underlying35 hi hz0 hz1 hz2 rfl (by decide) _ 0 [] rfl (by exact own_empty _ _ _) B (p - 0) _ (u8s ((l.drop 0).take (p - 0))) rfl (Sl.below HX1.out ((Below.refl _ _).alloc hB _).drew) (u8s_one _) (by omega) (by unfold maxLen; omega) (by simp) ?_; intro v1 w1 hown1 hg1 _; have hb1 := below_app_empty (grown_undrew hg1); rw [Nat.zero_add, List.nil_append] at hown1; clear hg1)
      | (refine step_app (by rfl) (.tmp 37) (.tmp 38) 35 rfl w.heap.size 5 i0 (.int .u8 0) 1 1 Tryd.underlying35 hi hz0 hz1 hz2 rfl (by decide) _ _ _ rfl hown1 B ins.length _ (u8s ins) rfl (Sl.below HU.out (hb1.mono hB)) (u8s_one _) (by omega) (by unfold maxLen; omega) hb1.size ?_; intro v2 w2 hown2 hg2 _; have hb2 := below_app hg2 hown1 (Nat.le_refl _) hb1.size hb1; clear hg2)
      | (refine step_app (by rfl) (.tmp 39) (.tmp 44) 35 rfl w.heap.size 5 i0 (.int .u8 0) 1 1 Tryd.underlying35 hi hz0 hz1 hz2 rfl (by decide) _ _ _ rfl hown2 B (l.length - (p + r)) _ _ rfl (Sl.below HX2.out (hb2.mono hB)) (u8s_one _) (by omega) (by unfold maxLen; omega) hb2.size ?_; intro v3 w3 hown3 hg3 _; have hb3 := below_app hg3 hown2 (Nat.le_refl _) hb2.size hb2; clear hg3))
  rw [HF.out, HL.out] at hown3
  go_wp2
  go_ret2
  exact ⟨v3, rfl, hown3, hb3⟩
end Go.Proofs.YtopplnfjdgoaaaaDoor
