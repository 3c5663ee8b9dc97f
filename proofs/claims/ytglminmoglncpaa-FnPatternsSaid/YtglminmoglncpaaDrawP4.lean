/- The draws of MatchSteps and MatchPath. Condition: the code reads as bytes, at most 2^20. -/
import Derived.Test.YtglminmoglncpaaDrawP3
import Derived.WalkSpells
import Derived.WalkLawsBesides
namespace Go.Proofs.Ytglminmoglncpaa
open Go.RowKit
theorem clean_join (L : List ByteArray) (h : ∀ x ∈ L, clean x = true) : clean (joinP L) = true := by
  unfold clean
  rw [joinP_data]
  unfold joinB
  rw [List.all_eq_true]
  intro c hc
  obtain ⟨x, hx, hm⟩ := List.mem_flatMap.1 hc
  rcases List.mem_cons.1 hm with rfl | hm
  · decide
  · have := h x hx
    unfold clean at this
    exact List.all_eq_true.1 this c hm
set_option maxHeartbeats 1000000 in
theorem drawMatchPath_any (v : Value) (l : List UInt8) (w : World) (h : SlB w w.heap.size v l) (hl : l.length ≤ 1048576) :
    Calls Try.prog 26 #[v] w fun e w' => (∃ q p : ByteArray, e = .returned (.tuple #[.string q, .string p]) ∧ q.size ≤ 4096 ∧ p.size ≤ 4096 ∧ clean p = true) ∧ Below w.heap.size w w' := by
  go_enter Try.func26, Try.ntmps26
  go_wp2_with fail
  refine (l1New_any v l _ w h hl).mono ?_
  rintro e w1 ⟨rfl, x, rfl⟩
  have ha : Below w.heap.size w (w.alloc (.cells #[v, .int .i64 0, .int .i64 x] 59)) := (Below.refl _ _).alloc (Nat.le_refl _) _
  have hc : CurW w.heap.size v l (w.alloc (.cells #[v, .int .i64 0, .int .i64 x] 59)) := ⟨h.below ha, cur_new⟩
  generalize w.alloc (.cells #[v, .int .i64 0, .int .i64 x] 59) = W at ha hc
  have HA := Lib.hid ha
  have HC := Lib.hid hc
  clear h ha hc
  go_wp2_with fail
  refine (l21Texts_any _ v l W HC.out).mono ?_
  rintro e w2 ⟨u, L, rfl, hown, hL, hall, hg, hc2⟩
  have htt : L.length + total L ≤ 8 := by
    have := total_leN 1 L (fun x hx => (hall x hx).1)
    omega
  have hjs := joinP_size L
  have HCl := Lib.hid (clean_join L (fun x hx => (hall x hx).2))
  have HO := Lib.hid hown
  have HG := Lib.hid hg
  have HC2 := Lib.hid hc2
  clear hown hg hc2 hall HC
  go_wp2_with fail
  refine (specJoinPath_any _ L _ _ (own_strs HO.out) (by omega)).mono ?_
  rintro e w3 ⟨rfl, rfl⟩
  generalize joinP L = P at *
  have hP : P.size ≤ 8 := by omega
  clear htt hjs HO
  go_wp2_with fail
  refine (l21Pattern_any _ v l P _ HC2.out (by omega)).mono ?_
  rintro e w3 ⟨⟨Q, rfl, hQ⟩, hg3, hc3⟩
  have HG3 := Lib.hid (HG.out.trans hg3)
  have HC3 := Lib.hid hc3
  clear hg3 hc3 HG HC2
  go_wp2_with fail
  refine (l1Once_any _ 0 v l 6 _ HC3.out (by omega) (by omega)).mono ?_
  rintro e w4 ⟨⟨x, rfl⟩, hg4, _, hc4⟩
  have HG4 := Lib.hid (HG3.out.trans hg4)
  have HC4 := Lib.hid hc4
  clear hg4 hc4 HG3 HC3
  cases x with
  | false =>
    have HB := Lib.hid (HG4.out.below HA.out HA.out.size (Nat.le_refl _))
    go_wp2
    go_ret2
    exact ⟨⟨Q, P, rfl, hQ, by omega, HCl.out⟩, HB.out⟩
  | true =>
    go_wp2_with fail
    refine (l18Text_any _ v l _ HC4.out).mono ?_
    rintro e w5 ⟨⟨S, rfl, hS, hcl⟩, hg5, hc5⟩
    have HB := Lib.hid (And.intro hcl ((HG4.out.trans hg5).below HA.out HA.out.size (Nat.le_refl _)))
    clear hg5 hc5 hcl
    go_wp2
    go_ret2
    exact ⟨⟨Q, S, rfl, hQ, by omega, HB.out.1⟩, HB.out.2⟩
set_option maxHeartbeats 2000000 in
theorem drawMatchSteps_any (v : Value) (l : List UInt8) (w : World) (h : SlB w w.heap.size v l) (hl : l.length ≤ 1048576) :
    Calls Try.prog 23 #[v] w fun e w' => (∃ p s P S, e = .returned (.tuple #[p, s]) ∧ SlS w' w'.heap.size p P ∧ SlS w' w'.heap.size s S ∧ P.length ≤ 4096 ∧ S.length ≤ 4 ∧ (∀ x ∈ S, x.size ≤ 1)) ∧ Below w.heap.size w w' := by
  obtain ⟨i0, hi, hz0, hz1, hz2⟩ := info_parts Try.info_str
  go_enter Try.func23, Try.ntmps23
  go_wp2_with fail
  refine (l1New_any v l _ w h hl).mono ?_
  rintro e w1 ⟨rfl, x, rfl⟩
  have ha : Below w.heap.size w (w.alloc (.cells #[v, .int .i64 0, .int .i64 x] 59)) := (Below.refl _ _).alloc (Nat.le_refl _) _
  have hc : CurW w.heap.size v l (w.alloc (.cells #[v, .int .i64 0, .int .i64 x] 59)) := ⟨h.below ha, cur_new⟩
  have hz : w.heap.size < (w.alloc (.cells #[v, .int .i64 0, .int .i64 x] 59)).heap.size := by simp
  generalize w.alloc (.cells #[v, .int .i64 0, .int .i64 x] 59) = W at ha hc hz
  have HA := Lib.hid ha
  have HC := Lib.hid hc
  clear h ha hc
  go_wp2_with fail
  refine (l21Texts_any _ v l W HC.out).mono ?_
  rintro e w2 ⟨u, S, rfl, hown, hS, hall, hg, hc2⟩
  have HR := Lib.hid (RdS.of_own hown)
  have HG := Lib.hid hg
  have HC2 := Lib.hid hc2
  have HAll := Lib.hid hall
  have hs2 := hg.size
  clear hown hg hc2 hall HC
  obtain ⟨A, c, rfl⟩ : ∃ A c, u = .slice A S.length c := by
    obtain ⟨_, A, c, e, _⟩ := HR.out.1
    exact ⟨A, c, e⟩
  go_wp2_with fail
  refine (l1Once_any _ 0 v l 3 _ HC2.out (by omega) (by omega)).mono ?_
  rintro e w3 ⟨⟨x, rfl⟩, hg3, hz3, hc3⟩
  have HR3 := Lib.hid (HR.out.keep hg3.out (by omega))
  have HG3 := Lib.hid (HG.out.trans hg3)
  have HC3 := Lib.hid hc3
  have hs3 := hg3.size
  clear hg3 hc3 HG HC2 HR hz3
  cases x with
  | true =>
    go_wp2_with fail
    refine (l21Texts_any _ v l _ HC3.out).mono ?_
    rintro e w4 ⟨u4, R, rfl, hown4, hR, hall4, hg4, hc4⟩
    have HP := Lib.hid (PS.mk (l := l) (v := v) (b := w.heap.size) (w := W) (lo := W.heap.size) (hi := w2.heap.size) (u := .slice A S.length c) (L := S) (base := w3.heap.size) (o := u4) (R := R) (wr := w4)
      (HG3.out.trans hg4) hc4 (HR3.out.keep hg4.out (by omega)) hown4 hz hs3 (by omega) (by omega) hg4.size)
    clear hown4 hall4 hg4 hc4 HG3 HC3 HR3
    go_wp2_with fail
    refine (l1Str_any _ w4.heap.size (w4.heap.size + 1) v _ l [⟨#[46, 46]⟩, ⟨#[35]⟩] _ (HP.out.cur.alloc _) (rdS_lit [⟨#[46, 46]⟩, ⟨#[35]⟩] _ rfl _ _ rfl rfl (by simp [maxLen])) HP.out.cur.lt (by simp) (by simp)).mono ?_
    rintro e w5 ⟨⟨y, hy, rfl⟩, hs5, hz5, hc5⟩
    have HQ := Lib.hid ((HP.out.alloc _).step hs5 hc5)
    have hlo := HQ.out.hsz
    clear hs5 hc5 hz5 hy HP
    go_wp2_with (at_builtin; refine wpList_app _ rfl (.tmp 15) (.tmp 19) 22 rfl w3.heap.size 9 i0 (.string ⟨#[]⟩) 1 16 Try.underlying22 hi hz0 hz1 hz2 rfl (by decide) _ R.length _ rfl (HQ.out.alloc _).own _ 1 _ [.string y] rfl (sl_str_one rfl) (by simp [Value.oneCell']) (by omega) (by unfold maxLen; omega) (by simp; omega) ?_; intro v2 w6 own2 hg2 _)
    have HQ3 := Lib.hid (PS.app (R2 := R ++ [y]) (HQ.out.alloc _) own2 (by simp) (by simp) hg2)
    have HB := Lib.hid (HQ3.out.go.below HA.out HA.out.size (Nat.le_refl _))
    clear own2 hg2
    go_ret2
    exact ⟨⟨_, _, R ++ [y], S, rfl, own_strs HQ3.out.own, HQ3.out.rd.sl, by simp; omega, hS, fun x hx => (HAll.out x hx).1⟩, HB.out⟩
  | false =>
    have htt : S.length + total S ≤ 8 := by
      have := total_leN 1 S (fun x hx => (HAll.out x hx).1)
      omega
    have hjs := joinP_size S
    go_wp2_with fail
    refine (specJoinPath_any _ S _ _ HR3.out.sl (by omega)).mono ?_
    rintro e w4 ⟨rfl, rfl⟩
    generalize joinP S = P at *
    have hP : P.size ≤ 8 := by omega
    clear htt hjs
    go_wp2_with fail
    refine (l21Pattern_any _ v l P _ HC3.out (by omega)).mono ?_
    rintro e w4 ⟨⟨Q, rfl, hQ⟩, hg4, hc4⟩
    have HR4 := Lib.hid (HR3.out.keep hg4.out (by omega))
    have HG4 := Lib.hid (HG3.out.trans hg4)
    have hs4 := hg4.size
    clear hg4 hc4 HG3 HC3 HR3
    go_wp2_with fail
    refine (specSteps_any Q _ (by omega)).mono ?_
    rintro e w5 ⟨p, rfl, hrd, hb5⟩
    have HR5 := Lib.hid (HR4.out.keep (Out.of_below hb5 w4.heap.size w4.heap.size) (by omega))
    have HP5 := Lib.hid hrd
    have HB := Lib.hid (below_step hb5 (HG4.out.below HA.out HA.out.size (Nat.le_refl _)))
    have hpl : (patL Q).length ≤ 4096 := by
      have h2 := (splitT_length Q 47).1
      unfold patL
      split
      · rw [tailT, List.length_tail]; omega
      · simp
    clear hrd hb5
    go_wp2
    go_ret2
    exact ⟨⟨_, _, patL Q, S, rfl, HP5.out.sl, HR5.out.sl, hpl, hS, fun x hx => (HAll.out x hx).1⟩, HB.out⟩
end Go.Proofs.Ytglminmoglncpaa
