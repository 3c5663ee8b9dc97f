/- The walks of ErrorName, DescribeError and FormatDiagnosis, spec and impl. Conditions: the description reads as its small rules, the path is small; for impl: the table of powers of ten reads as laid. -/
import Derived.Test.YtkfmdkogifmfmaaDoorOpenDiag
import Derived.Test.YtkfmdkogifmfmaaDoorFmtD
import Derived.Test.YtkfmdkogifmfmaaDoorDescAlt
import Derived.WalkSpells
import Derived.WalkLawsBesides
namespace Go.Proofs.YtkfmdkogifmfmaaDoor
set_option linter.unusedSimpArgs false
set_option linter.unusedVariables false
open Go.RowKit
/-- The name of a code of a reading. -/
def errName (c : Int) : ByteArray :=
  if c = 0 then ⟨#[111, 107]⟩ else if c = 1 then ⟨#[115, 104, 111, 114, 116]⟩ else if c = 2 then ⟨#[99, 111, 110, 115, 116]⟩ else if c = 3 then ⟨#[116, 97, 103]⟩ else if c = 4 then ⟨#[102, 108, 97, 103]⟩ else if c = 5 then ⟨#[115, 117, 109]⟩ else if c = 6 then ⟨#[99, 111, 117, 110, 116]⟩ else if c = 7 then ⟨#[116, 114, 97, 105, 108, 105, 110, 103]⟩ else if c = 8 then ⟨#[114, 117, 108, 101]⟩ else ⟨#[]⟩
theorem errName_out {c : Int} (h : inB c 0 8 = false) : errName c = ⟨#[]⟩ := by
  have h' : ¬ (0 ≤ c ∧ c ≤ 8) := fun hx => by rw [inB_iff.2 hx] at h; cases h
  unfold errName
  rw [if_neg (by omega), if_neg (by omega), if_neg (by omega), if_neg (by omega), if_neg (by omega), if_neg (by omega), if_neg (by omega), if_neg (by omega), if_neg (by omega)]
theorem errName_size (c : Int) : (errName c).size ≤ 8 := by
  unfold errName
  repeat (split <;> first | (show _ ≤ 8; decide) | skip)
set_option maxHeartbeats 2000000 in
set_option maxRecDepth 100000 in
theorem specErrorName_any (c : Int) (w : World) : Calls Tryd.prog 41 #[.int .i64 c] w fun e w' => e = .returned (.string (errName c)) ∧ Below w.heap.size w w' := by
  cases hin : inB c 0 8
  · have HX := Lib.hid (errName_out hin)
    have HI := Lib.hid hin
    clear hin
    go_enter Tryd.func41, Tryd.ntmps41
    go_wp2_with fail
    refine (l1In_any _ _ _ _).mono ?_
    rintro e w1 ⟨rfl, rfl⟩
    rw [HI.out]
    go_wp2
    go_ret
    exact ⟨ret_str HX.out.symm, (by repeat (first | exact Below.refl _ _ | assumption | refine Below.alloc ?_ (by first | omega | (simp <;> omega)) _ | refine Below.setCell ?_ (by first | omega | (simp <;> omega)) _ | refine Below.drew ?_ | refine below_drewN ?_ _))⟩
  · have hc := inB_iff.1 hin
    rcases (show c = 0 ∨ c = 1 ∨ c = 2 ∨ c = 3 ∨ c = 4 ∨ c = 5 ∨ c = 6 ∨ c = 7 ∨ c = 8 by omega) with rfl | rfl | rfl | rfl | rfl | rfl | rfl | rfl | rfl
    all_goals
      have HI := Lib.hid hin
      clear hin hc
      go_enter Tryd.func41, Tryd.ntmps41
      go_wp2_with fail
      refine (l1In_any _ _ _ _).mono ?_
      rintro e w1 ⟨rfl, rfl⟩
      rw [HI.out]
      go_wp2
      go_ret
      exact ⟨ret_str rfl, (by repeat (first | exact Below.refl _ _ | assumption | refine Below.alloc ?_ (by first | omega | (simp <;> omega)) _ | refine Below.setCell ?_ (by first | omega | (simp <;> omega)) _ | refine Below.drew ?_ | refine below_drewN ?_ _))⟩
set_option maxHeartbeats 2000000 in
set_option maxRecDepth 100000 in
theorem implErrorName_any (c : Int) (w : World) : Calls Tryd.prog 44 #[.int .i64 c] w fun e w' => e = .returned (.string (errName c)) ∧ Below w.heap.size w w' := by
  cases hin : inB c 0 8
  · have HX := Lib.hid (errName_out hin)
    have HI := Lib.hid hin
    clear hin
    go_enter Tryd.func44, Tryd.ntmps44
    go_wp2_with fail
    refine (InRange_any _ _ _ _).mono ?_
    rintro e w1 ⟨rfl, rfl⟩
    rw [HI.out]
    go_wp2
    go_ret
    exact ⟨ret_str HX.out.symm, (by repeat (first | exact Below.refl _ _ | assumption | refine Below.alloc ?_ (by first | omega | (simp <;> omega)) _ | refine Below.setCell ?_ (by first | omega | (simp <;> omega)) _ | refine Below.drew ?_ | refine below_drewN ?_ _))⟩
  · have hc := inB_iff.1 hin
    rcases (show c = 0 ∨ c = 1 ∨ c = 2 ∨ c = 3 ∨ c = 4 ∨ c = 5 ∨ c = 6 ∨ c = 7 ∨ c = 8 by omega) with rfl | rfl | rfl | rfl | rfl | rfl | rfl | rfl | rfl
    all_goals
      have HI := Lib.hid hin
      clear hin hc
      go_enter Tryd.func44, Tryd.ntmps44
      go_wp2_with fail
      refine (InRange_any _ _ _ _).mono ?_
      rintro e w1 ⟨rfl, rfl⟩
      rw [HI.out]
      go_wp2
      go_ret
      exact ⟨ret_str rfl, (by repeat (first | exact Below.refl _ _ | assumption | refine Below.alloc ?_ (by first | omega | (simp <;> omega)) _ | refine Below.setCell ?_ (by first | omega | (simp <;> omega)) _ | refine Below.drew ?_ | refine below_drewN ?_ _))⟩
/-- What a reading says. -/
def descText (pos c : Int) : ByteArray := if c = 0 then ⟨#[111, 107]⟩ else errName c ++ ⟨#[32, 97, 116, 32]⟩ ++ str (fmtI pos)
theorem descText_size (pos c : Int) (h : InI64 pos) : (descText pos c).size ≤ 32 := by
  unfold descText
  split
  · show 2 ≤ 32; omega
  · have := errName_size c
    have := fmtI_size pos h
    rw [ByteArray.size_append, ByteArray.size_append]
    show (errName c).size + 4 + _ ≤ 32
    omega
set_option maxHeartbeats 2000000 in
theorem specDescribe_any (pos c : Int) (w : World) (hp : InI64 pos) : Calls Tryd.prog 21 #[.int .i64 pos, .int .i64 c] w fun e w' => e = .returned (.string (descText pos c)) ∧ Below w.heap.size w w' := by
  have hA : ∀ W, Below w.heap.size w W → Calls Tryd.prog 42 #[.int .i64 pos] W fun e w' => e = .returned (.string (str (fmtI pos))) ∧ Below W.heap.size W w' := fun W h => specFormatInt_any pos W hp
  have zA := fmtI_size pos hp
  have zE := errName_size c
  have HA := Lib.hid hA
  clear hA hp
  by_cases h0 : c = 0
  · subst h0
    go_enter Tryd.func21, Tryd.ntmps21
    go_wp2
    go_ret
    exact ⟨ret_str rfl, Below.refl _ _⟩
  · have H := Lib.hid (show descText pos c = errName c ++ ⟨#[32, 97, 116, 32]⟩ ++ str (fmtI pos) by unfold descText; rw [if_neg h0])
    have HE := Lib.hid (specErrorName_any c)
    have f0 : (c == 0) = false := beq_eq_false_iff_ne.2 h0
    clear h0
    generalize hEE : errName c = E at *
    generalize str (fmtI pos) = A at *
    have HEE := Lib.hid hEE
    clear hEE
    have q1 : ¬ (9223372036854775807 < E.size + 4) := by omega
    have q2 : ¬ (9223372036854775807 < E.size + 4 + A.size) := by omega
    go_enter Tryd.func21, Tryd.ntmps21
    go_wp2_with fail
    refine (HE.out _).mono ?_
    rintro e w1 ⟨rfl, bel⟩
    go_wp2_with fail
    refine (HA.out _ bel).mono ?_
    rintro e w2 ⟨rfl, bel2⟩
    have b2 := below_step bel2 bel
    clear bel bel2
    go_wp2
    go_ret
    exact ⟨ret_str (by rw [H.out]), b2⟩
set_option maxHeartbeats 2000000 in
theorem implDescribe_any (pos c : Int) (w : World) (hp : InI64 pos) (ht : Tab w) : Calls Tryd.prog 24 #[.int .i64 pos, .int .i64 c] w fun e w' => e = .returned (.string (descText pos c)) ∧ Below w.heap.size w w' := by
  have hA : ∀ W, Below w.heap.size w W → Calls Tryd.prog 30 #[.int .i64 pos] W fun e w' => e = .returned (.string (str (fmtI pos))) ∧ Below W.heap.size W w' := fun W h => implFormatInt_any pos W hp (tab_on ht h)
  have zA := fmtI_size pos hp
  have zE := errName_size c
  have HA := Lib.hid hA
  clear hA hp ht
  by_cases h0 : c = 0
  · subst h0
    go_enter Tryd.func24, Tryd.ntmps24
    go_wp2_with fail
    refine (implErrorName_any 0 _).mono ?_
    rintro e w1 ⟨rfl, bel⟩
    go_wp2
    go_ret
    exact ⟨ret_str rfl, bel⟩
  · have H := Lib.hid (show descText pos c = errName c ++ ⟨#[32, 97, 116, 32]⟩ ++ str (fmtI pos) by unfold descText; rw [if_neg h0])
    have HE := Lib.hid (implErrorName_any c)
    have f0 : (c == 0) = false := beq_eq_false_iff_ne.2 h0
    clear h0
    generalize hEE : errName c = E at *
    generalize str (fmtI pos) = A at *
    have HEE := Lib.hid hEE
    clear hEE
    have q1 : ¬ (9223372036854775807 < E.size + 4) := by omega
    have q2 : ¬ (9223372036854775807 < E.size + 4 + A.size) := by omega
    go_enter Tryd.func24, Tryd.ntmps24
    go_wp2_with fail
    refine (HE.out _).mono ?_
    rintro e w1 ⟨rfl, bel⟩
    go_wp2_with fail
    refine (HA.out _ bel).mono ?_
    rintro e w2 ⟨rfl, bel2⟩
    have b2 := below_step bel2 bel
    clear bel bel2
    go_wp2
    go_ret
    exact ⟨ret_str (by rw [H.out]), b2⟩
/-- The text with the path behind it. -/
def pathTail (s t : ByteArray) : ByteArray := if t.toList.isEmpty then s else s ++ ⟨#[32, 105, 110, 32]⟩ ++ t
/-- A diagnosis as a text. -/
def diagText (D : List RuleD) (x : Diag) : ByteArray :=
  if x.code = 0 then ⟨#[111, 107]⟩ else
  match ruleAt D x.rule with
  | none => pathTail (descText x.pos x.code) x.path
  | some r => pathTail (descText x.pos x.code) x.path ++ ⟨#[32, 40]⟩ ++ r.name ++ ⟨#[41]⟩
theorem pathTail_size (s t : ByteArray) (h1 : s.size ≤ 32) (h2 : t.size ≤ 1048576) : (pathTail s t).size ≤ 2097152 := by
  unfold pathTail
  split
  · omega
  · rw [ByteArray.size_append, ByteArray.size_append]
    show s.size + 4 + _ ≤ _
    omega
set_option maxHeartbeats 4000000 in
set_option maxRecDepth 100000 in
theorem specDiag_any (v : Value) (l : List RM) (x : Diag) (B : Nat) (w : World) (h : SlD w B v l) (hB : B ≤ w.heap.size) (sm : ∀ r ∈ l, r.d.small 1048576) (hp : InI64 x.pos) (hr : InI64 x.rule) (ht : x.path.size ≤ 1048576) :
    Calls Tryd.prog 8 #[.agg #[v], .agg #[.int .i64 x.code, .int .i64 x.pos, .string x.path, .int .i64 x.rule]] w fun e w' => e = .returned (.string (diagText (l.map RM.d) x)) ∧ Below w.heap.size w w' := by
  obtain ⟨code, pos, path, rule⟩ := x
  dsimp only at hp hr ht ⊢
  have hlm : (l.map RM.d).length = l.length := List.length_map ..
  have hS : ∀ W, Below w.heap.size w W → Calls Tryd.prog 21 #[.int .i64 pos, .int .i64 code] W fun e w' => e = .returned (.string (descText pos code)) ∧ Below W.heap.size W w' := fun W hb => specDescribe_any pos code W hp
  have HS := Lib.hid hS
  have zS := descText_size pos code hp
  clear hS
  obtain ⟨A, c, rfl, hc, hm, -⟩ := h.open_
  unfold maxLen at hm
  obtain ⟨W0, hW0⟩ : ∃ W0, W0 = (w.alloc (.cells #[.slice A l.length c] 32)).alloc (.cells #[.int .i64 code, .int .i64 pos, .string path, .int .i64 rule] 34) := ⟨_, rfl⟩
  have hbW : Below w.heap.size w W0 := by rw [hW0]; exact (Below.allocW w _ (Nat.le_refl _)).alloc (by simp) _
  have c0 : W0.cell? ⟨w.heap.size, 0, none⟩ = some (.slice A l.length c) := by rw [hW0]; simp [go_sem]
  have k0 : W0.cell? ⟨w.heap.size + 1, 0, none⟩ = some (.int .i64 code) := by rw [hW0]; simp [go_sem]
  have k2 : W0.cell? ⟨w.heap.size + 1, 2, none⟩ = some (.string path) := by rw [hW0]; simp [go_sem]
  have k3 : W0.cell? ⟨w.heap.size + 1, 3, none⟩ = some (.int .i64 rule) := by rw [hW0]; simp [go_sem]
  by_cases e0 : code = 0
  · subst e0
    go_enter Tryd.func8, Tryd.ntmps8
    go_wp2_with fail
    try rw [← hW0]
    clear hW0
    refine (HS.out _ hbW).mono ?_
    rintro e w1 ⟨rfl, bel⟩
    have b1 := below_step bel hbW
    have q0 := cell_later bel k0
    clear bel
    go_wp2
    go_ret
    exact ⟨ret_str rfl, b1⟩
  have f0 : (code == 0) = false := beq_eq_false_iff_ne.2 e0
  have HT : Hid (∀ T, (match ruleAt (l.map RM.d) rule with | none => pathTail (descText pos code) path | some r => pathTail (descText pos code) path ++ ⟨#[32, 40]⟩ ++ r.name ++ ⟨#[41]⟩) = T → diagText (l.map RM.d) ⟨code, pos, path, rule⟩ = T) := Lib.hid (fun T hT => by unfold diagText; rw [if_neg e0]; exact hT)
  clear e0
  obtain ⟨S1, hS1⟩ : ∃ S1, S1 = descText pos code := ⟨_, rfl⟩
  rw [← hS1] at HS HT zS
  clear hS1
  have q1 : ¬ (9223372036854775807 < S1.size + 4) := by omega
  have q2 : ¬ (9223372036854775807 < S1.size + 4 + path.size) := by omega
  have q3 : ¬ (9223372036854775807 < 4 + path.size) := by omega
  have q4 : ¬ (9223372036854775807 < S1.size + (4 + path.size)) := by omega
  cases hpe : path.toList.isEmpty
  · have hpt : pathTail S1 path = S1 ++ ⟨#[32, 105, 110, 32]⟩ ++ path := by rw [pathTail, hpe]; rfl
    have hpe3 : (path.toList == ([] : List UInt8)) = false := by cases hx : path.toList <;> simp_all
    have hpe4 : (path.toList != ([] : List UInt8)) = true := by rw [bne, hpe3]; rfl
    rw [hpt] at HT
    clear hpt
    cases hi : inB rule 0 ((l.length : Int) - 1)
    · have HY := Lib.hid (HT.out (S1 ++ ⟨#[32, 105, 110, 32]⟩ ++ path) (by rw [ruleAt_none (by have := mt inB_iff.2 (by rw [hi]; exact Bool.false_ne_true); rw [hlm]; omega)]))
      have HI := Lib.hid hi
      clear hi HT sm hlm
      go_enter Tryd.func8, Tryd.ntmps8
      go_wp2_with fail
      rw [← hW0]
      clear hW0
      refine (HS.out _ hbW).mono ?_
      rintro e w1 ⟨rfl, bel⟩
      have b1 := below_step bel hbW
      have d0 := cell_later bel c0
      have g0 := cell_later bel k0
      have g2 := cell_later bel k2
      have d3 := cell_later bel k3
      clear bel c0 k0 k2 k3 hbW
      go_wp2_with fail
      refine (l1In_any _ _ _ _).mono ?_
      rintro e w3 ⟨rfl, rfl⟩
      rw [HI.out]
      have b3 := b1
      go_wp2
      go_ret
      exact ⟨ret_str HY.out.symm, b3⟩
    · have hi2 := inB_iff.1 hi
      obtain ⟨k, hk, rfl, hat⟩ := ruleAt_some (D := l.map RM.d) (i := rule) (by omega) (by rw [hlm]; omega)
      have hkl : k < l.length := by rw [hlm] at hk; exact hk
      have HY := Lib.hid (HT.out (S1 ++ ⟨#[32, 105, 110, 32]⟩ ++ path ++ ⟨#[32, 40]⟩ ++ l[k].d.name ++ ⟨#[41]⟩) (by rw [hat, List.getElem_map]))
      have HI := Lib.hid hi
      have hnm := (sm l[k] (List.getElem_mem hkl)).name
      obtain ⟨b, off, A1, c1, A2, c2, A3, c3, A4, c4, rfl, hbB, -, -, -, -, m1, m2, m3, m4, hcell⟩ := rule_cells h k hkl
      have HC := Lib.hid hcell
      clear hi hi2 hat h hcell m1 m2 m3 m4 hk sm HT hlm
      generalize l[k] = r at *
      have q5 : ¬ (9223372036854775807 < (S1.size + 4 + path.size) + 2) := by omega
      have q6 : ¬ (9223372036854775807 < (S1.size + 4 + path.size) + 2 + r.d.name.size) := by omega
      have q7 : ¬ (9223372036854775807 < (S1.size + 4 + path.size) + 2 + r.d.name.size + 1) := by omega
      have q8 : ¬ (9223372036854775807 < 2 + r.d.name.size) := by omega
      have q9 : ¬ (9223372036854775807 < 2 + r.d.name.size + 1) := by omega
      have q10 : ¬ (9223372036854775807 < (S1.size + (4 + path.size)) + (2 + r.d.name.size + 1)) := by omega
      go_enter Tryd.func8, Tryd.ntmps8
      go_wp2_with fail
      rw [← hW0]
      clear hW0
      refine (HS.out _ hbW).mono ?_
      rintro e w1 ⟨rfl, bel⟩
      have b1 := below_step bel hbW
      have d0 := cell_later bel c0
      have g0 := cell_later bel k0
      have g2 := cell_later bel k2
      have d3 := cell_later bel k3
      clear bel c0 k0 k2 k3 hbW
      go_wp2_with fail
      refine (l1In_any _ _ _ _).mono ?_
      rintro e w3 ⟨rfl, rfl⟩
      rw [HI.out]
      have b3 := b1
      obtain ⟨x0, -⟩ := HC.out _ (below_cells b3 hB)
      go_wp2
      go_ret
      exact ⟨ret_str (HY.out.trans (by simp only [ByteArray.append_assoc])).symm, b3⟩
  · have hpt : pathTail S1 path = S1 := by rw [pathTail, hpe]; rfl
    have hpe3 : (path.toList == ([] : List UInt8)) = true := by cases hx : path.toList <;> simp_all
    have hpe4 : (path.toList != ([] : List UInt8)) = false := by rw [bne, hpe3]; rfl
    rw [hpt] at HT
    clear hpt
    cases hi : inB rule 0 ((l.length : Int) - 1)
    · have HY := Lib.hid (HT.out (S1) (by rw [ruleAt_none (by have := mt inB_iff.2 (by rw [hi]; exact Bool.false_ne_true); rw [hlm]; omega)]))
      have HI := Lib.hid hi
      clear hi HT sm hlm
      go_enter Tryd.func8, Tryd.ntmps8
      go_wp2_with fail
      rw [← hW0]
      clear hW0
      refine (HS.out _ hbW).mono ?_
      rintro e w1 ⟨rfl, bel⟩
      have b1 := below_step bel hbW
      have d0 := cell_later bel c0
      have g0 := cell_later bel k0
      have g2 := cell_later bel k2
      have d3 := cell_later bel k3
      clear bel c0 k0 k2 k3 hbW
      go_wp2_with fail
      refine (l1In_any _ _ _ _).mono ?_
      rintro e w3 ⟨rfl, rfl⟩
      rw [HI.out]
      have b3 := b1
      go_wp2
      go_ret
      exact ⟨ret_str HY.out.symm, b3⟩
    · have hi2 := inB_iff.1 hi
      obtain ⟨k, hk, rfl, hat⟩ := ruleAt_some (D := l.map RM.d) (i := rule) (by omega) (by rw [hlm]; omega)
      have hkl : k < l.length := by rw [hlm] at hk; exact hk
      have HY := Lib.hid (HT.out (S1 ++ ⟨#[32, 40]⟩ ++ l[k].d.name ++ ⟨#[41]⟩) (by rw [hat, List.getElem_map]))
      have HI := Lib.hid hi
      have hnm := (sm l[k] (List.getElem_mem hkl)).name
      obtain ⟨b, off, A1, c1, A2, c2, A3, c3, A4, c4, rfl, hbB, -, -, -, -, m1, m2, m3, m4, hcell⟩ := rule_cells h k hkl
      have HC := Lib.hid hcell
      clear hi hi2 hat h hcell m1 m2 m3 m4 hk sm HT hlm
      generalize l[k] = r at *
      have q5 : ¬ (9223372036854775807 < S1.size + 2) := by omega
      have q6 : ¬ (9223372036854775807 < S1.size + 2 + r.d.name.size) := by omega
      have q7 : ¬ (9223372036854775807 < S1.size + 2 + r.d.name.size + 1) := by omega
      have q8 : ¬ (9223372036854775807 < 2 + r.d.name.size) := by omega
      have q9 : ¬ (9223372036854775807 < 2 + r.d.name.size + 1) := by omega
      have q10 : ¬ (9223372036854775807 < S1.size + (2 + r.d.name.size + 1)) := by omega
      go_enter Tryd.func8, Tryd.ntmps8
      go_wp2_with fail
      rw [← hW0]
      clear hW0
      refine (HS.out _ hbW).mono ?_
      rintro e w1 ⟨rfl, bel⟩
      have b1 := below_step bel hbW
      have d0 := cell_later bel c0
      have g0 := cell_later bel k0
      have g2 := cell_later bel k2
      have d3 := cell_later bel k3
      clear bel c0 k0 k2 k3 hbW
      go_wp2_with fail
      refine (l1In_any _ _ _ _).mono ?_
      rintro e w3 ⟨rfl, rfl⟩
      rw [HI.out]
      have b3 := b1
      obtain ⟨x0, -⟩ := HC.out _ (below_cells b3 hB)
      go_wp2
      go_ret
      exact ⟨ret_str (HY.out.trans (by simp only [ByteArray.append_assoc])).symm, b3⟩
set_option maxHeartbeats 4000000 in
set_option maxRecDepth 100000 in
theorem implDiag_any (v : Value) (l : List RM) (x : Diag) (B : Nat) (w : World) (h : SlD w B v l) (hB : B ≤ w.heap.size) (sm : ∀ r ∈ l, r.d.small 1048576) (hp : InI64 x.pos) (hr : InI64 x.rule) (ht : x.path.size ≤ 1048576) (htab : Tab w) :
    Calls Tryd.prog 11 #[.agg #[v], .agg #[.int .i64 x.code, .int .i64 x.pos, .string x.path, .int .i64 x.rule]] w fun e w' => e = .returned (.string (diagText (l.map RM.d) x)) ∧ Below w.heap.size w w' := by
  obtain ⟨code, pos, path, rule⟩ := x
  dsimp only at hp hr ht ⊢
  have hlm : (l.map RM.d).length = l.length := List.length_map ..
  have hS : ∀ W, Below w.heap.size w W → Calls Tryd.prog 24 #[.int .i64 pos, .int .i64 code] W fun e w' => e = .returned (.string (descText pos code)) ∧ Below W.heap.size W w' := fun W hb => implDescribe_any pos code W hp (tab_on htab hb)
  have HS := Lib.hid hS
  have zS := descText_size pos code hp
  clear hS
  have hR : ∀ W, Below w.heap.size w W → Calls Tryd.prog 25 #[.agg #[v], .int .i64 rule] W fun e' w' => e' = .returned (.bool (inB rule 0 ((l.length : Int) - 1))) ∧ Below W.heap.size W w' := fun W hb => hasRule_any _ l rule B W (h.below (hb.mono hB))
  have HR := Lib.hid hR
  clear hR htab
  obtain ⟨A, c, rfl, hc, hm, -⟩ := h.open_
  unfold maxLen at hm
  obtain ⟨W0, hW0⟩ : ∃ W0, W0 = (w.alloc (.cells #[.slice A l.length c] 32)).alloc (.cells #[.int .i64 code, .int .i64 pos, .string path, .int .i64 rule] 34) := ⟨_, rfl⟩
  have hbW : Below w.heap.size w W0 := by rw [hW0]; exact (Below.allocW w _ (Nat.le_refl _)).alloc (by simp) _
  have c0 : W0.cell? ⟨w.heap.size, 0, none⟩ = some (.slice A l.length c) := by rw [hW0]; simp [go_sem]
  have k0 : W0.cell? ⟨w.heap.size + 1, 0, none⟩ = some (.int .i64 code) := by rw [hW0]; simp [go_sem]
  have k2 : W0.cell? ⟨w.heap.size + 1, 2, none⟩ = some (.string path) := by rw [hW0]; simp [go_sem]
  have k3 : W0.cell? ⟨w.heap.size + 1, 3, none⟩ = some (.int .i64 rule) := by rw [hW0]; simp [go_sem]
  by_cases e0 : code = 0
  · subst e0
    go_enter Tryd.func11, Tryd.ntmps11
    go_wp2_with fail
    try rw [← hW0]
    go_ret
    exact ⟨ret_str rfl, hbW⟩
  have f0 : (code == 0) = false := beq_eq_false_iff_ne.2 e0
  have HT : Hid (∀ T, (match ruleAt (l.map RM.d) rule with | none => pathTail (descText pos code) path | some r => pathTail (descText pos code) path ++ ⟨#[32, 40]⟩ ++ r.name ++ ⟨#[41]⟩) = T → diagText (l.map RM.d) ⟨code, pos, path, rule⟩ = T) := Lib.hid (fun T hT => by unfold diagText; rw [if_neg e0]; exact hT)
  clear e0
  obtain ⟨S1, hS1⟩ : ∃ S1, S1 = descText pos code := ⟨_, rfl⟩
  rw [← hS1] at HS HT zS
  clear hS1
  have q1 : ¬ (9223372036854775807 < S1.size + 4) := by omega
  have q2 : ¬ (9223372036854775807 < S1.size + 4 + path.size) := by omega
  have q3 : ¬ (9223372036854775807 < 4 + path.size) := by omega
  have q4 : ¬ (9223372036854775807 < S1.size + (4 + path.size)) := by omega
  cases hpe : path.toList.isEmpty
  · have hpt : pathTail S1 path = S1 ++ ⟨#[32, 105, 110, 32]⟩ ++ path := by rw [pathTail, hpe]; rfl
    have hpe3 : (path.toList == ([] : List UInt8)) = false := by cases hx : path.toList <;> simp_all
    have hpe4 : (path.toList != ([] : List UInt8)) = true := by rw [bne, hpe3]; rfl
    rw [hpt] at HT
    clear hpt
    cases hi : inB rule 0 ((l.length : Int) - 1)
    · have HY := Lib.hid (HT.out (S1 ++ ⟨#[32, 105, 110, 32]⟩ ++ path) (by rw [ruleAt_none (by have := mt inB_iff.2 (by rw [hi]; exact Bool.false_ne_true); rw [hlm]; omega)]))
      have HI := Lib.hid hi
      clear hi HT sm hlm
      go_enter Tryd.func11, Tryd.ntmps11
      go_wp2_with fail
      rw [← hW0]
      clear hW0
      refine (HS.out _ hbW).mono ?_
      rintro e w1 ⟨rfl, bel⟩
      have b1 := below_step bel hbW
      have d0 := cell_later bel c0
      have g0 := cell_later bel k0
      have g2 := cell_later bel k2
      have d3 := cell_later bel k3
      clear bel c0 k0 k2 k3 hbW
      go_wp2_with fail
      refine (HR.out _ b1).mono ?_
      rintro e w3 ⟨rfl, bel⟩
      rw [HI.out]
      have b3 := below_step bel b1
      have d0 := cell_later bel d0
      have d3 := cell_later bel d3
      clear bel
      go_wp2
      go_ret
      exact ⟨ret_str (HY.out.trans (by simp only [ByteArray.append_assoc])).symm, b3⟩
    · have hi2 := inB_iff.1 hi
      obtain ⟨k, hk, rfl, hat⟩ := ruleAt_some (D := l.map RM.d) (i := rule) (by omega) (by rw [hlm]; omega)
      have hkl : k < l.length := by rw [hlm] at hk; exact hk
      have HY := Lib.hid (HT.out (S1 ++ ⟨#[32, 105, 110, 32]⟩ ++ path ++ ⟨#[32, 40]⟩ ++ l[k].d.name ++ ⟨#[41]⟩) (by rw [hat, List.getElem_map]))
      have HI := Lib.hid hi
      have hnm := (sm l[k] (List.getElem_mem hkl)).name
      obtain ⟨b, off, A1, c1, A2, c2, A3, c3, A4, c4, rfl, hbB, -, -, -, -, m1, m2, m3, m4, hcell⟩ := rule_cells h k hkl
      have HC := Lib.hid hcell
      clear hi hi2 hat h hcell m1 m2 m3 m4 hk sm HT hlm
      generalize l[k] = r at *
      have q5 : ¬ (9223372036854775807 < (S1.size + 4 + path.size) + 2) := by omega
      have q6 : ¬ (9223372036854775807 < (S1.size + 4 + path.size) + 2 + r.d.name.size) := by omega
      have q7 : ¬ (9223372036854775807 < (S1.size + 4 + path.size) + 2 + r.d.name.size + 1) := by omega
      have q8 : ¬ (9223372036854775807 < 2 + r.d.name.size) := by omega
      have q9 : ¬ (9223372036854775807 < 2 + r.d.name.size + 1) := by omega
      have q10 : ¬ (9223372036854775807 < (S1.size + (4 + path.size)) + (2 + r.d.name.size + 1)) := by omega
      go_enter Tryd.func11, Tryd.ntmps11
      go_wp2_with fail
      rw [← hW0]
      clear hW0
      refine (HS.out _ hbW).mono ?_
      rintro e w1 ⟨rfl, bel⟩
      have b1 := below_step bel hbW
      have d0 := cell_later bel c0
      have g0 := cell_later bel k0
      have g2 := cell_later bel k2
      have d3 := cell_later bel k3
      clear bel c0 k0 k2 k3 hbW
      go_wp2_with fail
      refine (HR.out _ b1).mono ?_
      rintro e w3 ⟨rfl, bel⟩
      rw [HI.out]
      have b3 := below_step bel b1
      have d0 := cell_later bel d0
      have d3 := cell_later bel d3
      clear bel
      obtain ⟨x0, -⟩ := HC.out _ (below_cells b3 hB)
      go_wp2
      go_ret
      exact ⟨ret_str (HY.out.trans (by simp only [ByteArray.append_assoc])).symm, b3⟩
  · have hpt : pathTail S1 path = S1 := by rw [pathTail, hpe]; rfl
    have hpe3 : (path.toList == ([] : List UInt8)) = true := by cases hx : path.toList <;> simp_all
    have hpe4 : (path.toList != ([] : List UInt8)) = false := by rw [bne, hpe3]; rfl
    rw [hpt] at HT
    clear hpt
    cases hi : inB rule 0 ((l.length : Int) - 1)
    · have HY := Lib.hid (HT.out (S1) (by rw [ruleAt_none (by have := mt inB_iff.2 (by rw [hi]; exact Bool.false_ne_true); rw [hlm]; omega)]))
      have HI := Lib.hid hi
      clear hi HT sm hlm
      go_enter Tryd.func11, Tryd.ntmps11
      go_wp2_with fail
      rw [← hW0]
      clear hW0
      refine (HS.out _ hbW).mono ?_
      rintro e w1 ⟨rfl, bel⟩
      have b1 := below_step bel hbW
      have d0 := cell_later bel c0
      have g0 := cell_later bel k0
      have g2 := cell_later bel k2
      have d3 := cell_later bel k3
      clear bel c0 k0 k2 k3 hbW
      go_wp2_with fail
      refine (HR.out _ b1).mono ?_
      rintro e w3 ⟨rfl, bel⟩
      rw [HI.out]
      have b3 := below_step bel b1
      have d0 := cell_later bel d0
      have d3 := cell_later bel d3
      clear bel
      go_wp2
      go_ret
      exact ⟨ret_str (HY.out.trans (by simp only [ByteArray.append_assoc])).symm, b3⟩
    · have hi2 := inB_iff.1 hi
      obtain ⟨k, hk, rfl, hat⟩ := ruleAt_some (D := l.map RM.d) (i := rule) (by omega) (by rw [hlm]; omega)
      have hkl : k < l.length := by rw [hlm] at hk; exact hk
      have HY := Lib.hid (HT.out (S1 ++ ⟨#[32, 40]⟩ ++ l[k].d.name ++ ⟨#[41]⟩) (by rw [hat, List.getElem_map]))
      have HI := Lib.hid hi
      have hnm := (sm l[k] (List.getElem_mem hkl)).name
      obtain ⟨b, off, A1, c1, A2, c2, A3, c3, A4, c4, rfl, hbB, -, -, -, -, m1, m2, m3, m4, hcell⟩ := rule_cells h k hkl
      have HC := Lib.hid hcell
      clear hi hi2 hat h hcell m1 m2 m3 m4 hk sm HT hlm
      generalize l[k] = r at *
      have q5 : ¬ (9223372036854775807 < S1.size + 2) := by omega
      have q6 : ¬ (9223372036854775807 < S1.size + 2 + r.d.name.size) := by omega
      have q7 : ¬ (9223372036854775807 < S1.size + 2 + r.d.name.size + 1) := by omega
      have q8 : ¬ (9223372036854775807 < 2 + r.d.name.size) := by omega
      have q9 : ¬ (9223372036854775807 < 2 + r.d.name.size + 1) := by omega
      have q10 : ¬ (9223372036854775807 < S1.size + (2 + r.d.name.size + 1)) := by omega
      go_enter Tryd.func11, Tryd.ntmps11
      go_wp2_with fail
      rw [← hW0]
      clear hW0
      refine (HS.out _ hbW).mono ?_
      rintro e w1 ⟨rfl, bel⟩
      have b1 := below_step bel hbW
      have d0 := cell_later bel c0
      have g0 := cell_later bel k0
      have g2 := cell_later bel k2
      have d3 := cell_later bel k3
      clear bel c0 k0 k2 k3 hbW
      go_wp2_with fail
      refine (HR.out _ b1).mono ?_
      rintro e w3 ⟨rfl, bel⟩
      rw [HI.out]
      have b3 := below_step bel b1
      have d0 := cell_later bel d0
      have d3 := cell_later bel d3
      clear bel
      obtain ⟨x0, -⟩ := HC.out _ (below_cells b3 hB)
      go_wp2
      go_ret
      exact ⟨ret_str (HY.out.trans (by simp only [ByteArray.append_assoc])).symm, b3⟩
theorem specDiag_law {w : World} {v : Value} {D : List RuleD} {lo hi : Nat} {x : Diag} (h : OwD D lo hi w v) (hk : okD D) (ok : x.ok) (ht : x.path.size ≤ 1048576) :
    Calls Tryd.prog 8 #[.agg #[v], .agg #[.int .i64 x.code, .int .i64 x.pos, .string x.path, .int .i64 x.rule]] w fun e w' => e = .returned (.string (diagText D x)) ∧ Below w.heap.size w w' := by
  obtain ⟨l, rfl, s⟩ := h.sl
  exact specDiag_any v l x _ w s (Nat.le_refl _) hk.l.2 ok.2.1 ok.2.2.2 ht
theorem implDiag_law {w0 w : World} {v : Value} {D : List RuleD} {lo hi : Nat} {x : Diag} (h : OwD D lo hi w v) (hk : okD D) (ok : x.ok) (ht : x.path.size ≤ 1048576) (htab : Tab w0) (hb : Below w0.heap.size w0 w) :
    Calls Tryd.prog 11 #[.agg #[v], .agg #[.int .i64 x.code, .int .i64 x.pos, .string x.path, .int .i64 x.rule]] w fun e w' => e = .returned (.string (diagText D x)) ∧ Below w.heap.size w w' := by
  obtain ⟨l, rfl, s⟩ := h.sl
  exact implDiag_any v l x _ w s (Nat.le_refl _) hk.l.2 ok.2.1 ok.2.2.2 ht (tab_on htab hb)
end Go.Proofs.YtkfmdkogifmfmaaDoor
