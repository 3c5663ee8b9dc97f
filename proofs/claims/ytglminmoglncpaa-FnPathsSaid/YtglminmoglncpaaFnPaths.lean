/- The walk of the law FnPaths. No condition but those of its argument. -/
import Derived.Test.YtglminmoglncpaaDrawP2
import Derived.Test.YtglminmoglncpaaPathP
import Derived.Test.YtglminmoglncpaaSplitI
import Derived.WalkSpells
import Derived.WalkLawsBesides
import Derived.Deep.RegionHeld3
import Derived.Sort.AtCall
import Derived.BigQuiet
import Derived.Deep.QuietTactic
namespace Go.Proofs.Ytglminmoglncpaa.FnPaths
open Go.RowKit
theorem sls_cut {w : World} {lo hi c : Nat} {A : Option Addr} {L : List ByteArray} (h : RdS L lo hi w (.slice A L.length c)) (k : Nat) (hk : k ≤ L.length) :
    SlS w hi (.slice (cutA A c 0 1) (k - 0) (c - 0)) (L.take k) := by
  obtain ⟨_, A', c', e, h1, h2, _⟩ := h.1
  cases e
  have h3 := Sl.cutA h.1 0 k c (Nat.zero_le _) hk (by omega) h2 (by decide)
  simp only [Nat.zero_mul, List.drop_zero, Nat.mul_one, Nat.sub_zero] at h3
  unfold SlS
  rw [List.length_take, Nat.min_eq_left hk, List.map_take]
  simpa using h3
theorem total_le (N : Nat) : ∀ L : List ByteArray, (∀ p ∈ L, p.size ≤ N) → total L ≤ L.length * N
  | [], _ => by simp [total]
  | x :: L, h => by
    have h1 := h x (by simp)
    have h2 := total_le N L (fun p hp => h p (by simp [hp]))
    simp only [total, List.length_cons, Nat.succ_mul]
    omega
set_option maxHeartbeats 4000000 in
set_option maxRecDepth 100000 in
theorem walk (v : Value) (l : List UInt8) (w : World) (h : SlB w w.heap.size v l) :
    Calls Try.prog 6 #[v] w fun e w' => e = .returned (.bool true) ∧ Below w.heap.size w w' := by
  obtain ⟨A0, c0, rfl, hcc⟩ := h.open_
  clear hcc
  by_cases hbig : 1048576 < (l.length : Int)
  · have HB := Lib.hid hbig
    clear hbig
    go_enter Try.func6, Try.ntmps6
    go_wp2_with fail
    refine (big_any _ l _ w h).mono ?_
    rintro e w1 ⟨rfl, rfl⟩
    rw [decide_eq_true HB.out]
    go_wp2
    go_ret
    exact ⟨rfl, Below.refl _ _⟩
  have hl : l.length ≤ 1048576 := by omega
  have HB := Lib.hid hbig
  clear hbig
  go_enter Try.func6, Try.ntmps6
  go_wp2_with fail
  refine (big_any _ l _ w h).mono ?_
  rintro e w1 ⟨rfl, rfl⟩
  rw [decide_eq_false (show ¬ (1048576 < (l.length : Int)) by omega)]
  go_wp2_with fail
  refine (drawSplitPath_any _ l w h hl).mono ?_
  rintro e w1 ⟨⟨S, rfl, hS, _⟩, b1⟩
  have HB1 := Lib.hid b1
  clear h HB b1
  go_wp2_with fail
  refine (implSplitPath_any S w1 (by omega)).mono ?_
  rintro e w2 ⟨u, rfl, hown, b2⟩
  have HR := Lib.hid (RdS.of_own hown)
  have HB2 := Lib.hid (below_step b2 HB1.out)
  clear hown b2 HB1
  go_wp2_with fail
  refine (specSplitPath_any S w2 (by omega)).mono ?_
  rintro e w3 ⟨u3, rfl, _, b3⟩
  have HR3 := Lib.hid (HR.out.keep (Out.of_below b3 w2.heap.size w2.heap.size) (by omega))
  have HB3 := Lib.hid (below_step b3 HB2.out)
  have hs3 := b3.size
  clear b3 HR HB2
  have hlen := spL_len isStep S
  have HSZ := Lib.hid (fun p hp => Nat.le_trans (splitL_sizes isStep S p hp) hS)
  have HJ := Lib.hid (join_spL isStep S)
  have HP := Lib.hid (parent_spL isStep S)
  have HL := Lib.hid (show spOk isStep S = false → spL isStep S = [] by intro h; simp [spL, h])
  have HA := Lib.hid (show ∀ p ∈ spL isStep S, spOk isStep S = true → isStep p = true by
    intro p hp hk
    have := spL_all isStep S p hp
    exact this)
  generalize hk : spOk isStep S = ok at *
  generalize spL isStep S = L at *
  obtain ⟨A, c, rfl⟩ : ∃ A c, u = .slice A L.length c := by
    obtain ⟨_, A, c, e, _⟩ := HR3.out.1
    exact ⟨A, c, e⟩
  cases ok with
  | false =>
    have hL := HL.out rfl
    subst hL
    clear hk
    go_wp2
    go_ret
    exact ⟨rfl, HB3.out⟩
  | true =>
    have hJ := HJ.out rfl
    have hP := HP.out rfl
    have hAll := fun p hp => HA.out p hp rfl
    have HJ2 := Lib.hid hJ
    have HP2 := Lib.hid hP
    have HA2 := Lib.hid hAll
    clear hJ hP hAll HL hk HJ HP HA
    go_wp2
    go_loopw [8] (fun i wr => ∃ k : Nat, k ≤ L.length ∧ i = .int .i64 k ∧ Below w.heap.size w wr ∧ RdS L w1.heap.size w2.heap.size wr (.slice A L.length c) ∧ w2.heap.size ≤ wr.heap.size) (fun i _ => L.length - (intOf i).toNat)
    case atStart => exact ⟨0, Nat.zero_le _, rfl, HB3.out, HR3.out, hs3⟩
    case round =>
      obtain ⟨k, hk, rfl, hb, hrd, hsz⟩ := hrel
      have HX := Lib.hid (And.intro hb (And.intro hrd hsz))
      clear hb hrd hsz HB3 HR3
      by_cases hlt : k < L.length
      · have hcell := (show SlS wr w2.heap.size _ L from HX.out.2.1.1).one
        obtain ⟨A', c', e', hc1, hc2, hcell⟩ := hcell
        cases e'
        unfold maxLen at hc2
        obtain ⟨bb, off, rfl, hbb, hd⟩ := hcell k hlt
        have hmem : L[k] ∈ L := List.getElem_mem hlt
        have hsk := HSZ.out _ hmem
        have HIS := Lib.hid (HA2.out _ hmem)
        have hcut := run_cutH (P := Try.prog) Try.underlying22 Try.sizeOf9 (some ⟨bb, off, none⟩) L.length c k k rfl (by omega)
        have HT := Lib.hid (show withinB S.data.toList (joinP (L.take k)).data.toList = true by
          have := within_take L k hlt
          rwa [HJ2.out] at this)
        have htt : (L.take k).length + total (L.take k) ≤ 4096 := by
          have h1 := total_le 12 (L.take k) (fun p hp => HSZ.out p (List.mem_of_mem_take hp))
          have h2 : (L.take k).length ≤ 12 := by rw [List.length_take]; omega
          omega
        have hjs := joinP_size (L.take k)
        have HTT := Lib.hid htt
        generalize L[k] = y at *
        clear hcell hmem htt
        go_wp2_with fail
        refine (implIsStep_any y _ (by unfold maxLen; omega)).mono ?_
        rintro e w4 ⟨rfl, b4⟩
        rw [HIS.out]
        have HR4 := Lib.hid (HX.out.2.1.keep (Out.of_below b4 wr.heap.size wr.heap.size) (by have := HX.out.2.2; omega))
        have HB4 := Lib.hid (below_step b4 HX.out.1)
        have hs4 := Nat.le_trans HX.out.2.2 b4.size
        clear b4 hd
        go_wp2_with fail
        refine (implJoinPath_any _ (L.take k) _ _ (sls_cut HR4.out k (by omega)) (by have := HTT.out; omega)).mono ?_
        rintro e w5 ⟨rfl, rfl⟩
        go_wp2_with fail
        refine (implIsWithin_any S (joinP (L.take k)) _ (by unfold maxLen; omega) (by have := HTT.out; omega)).mono ?_
        rintro e w5 ⟨rfl, rfl⟩
        rw [HT.out]
        go_wp2
        go_roundw
        case rel => exact ⟨k + 1, by omega, by go_num, HB4.out, HR4.out, hs4⟩
        case measure => simp [intOf]; omega
      · obtain rfl : k = L.length := by omega
        have htt : L.length + total L ≤ 4096 := by
          have h1 := total_le 12 L HSZ.out
          omega
        have hW : ∀ p W, p.size ≤ 100 → Calls Try.prog 20 #[.string p, .string S] W fun e w' => e = .returned (.bool (withinB p.data.toList S.data.toList)) ∧ W = w' := fun p W hp =>
          implIsWithin_any p S W (by unfold maxLen; omega) (by omega)
        have hwA : withinB S.data.toList S.data.toList = true := within_self _
        have hwB : withinB (S ++ (⟨#[47, 112]⟩ : ByteArray)).data.toList S.data.toList = true := by
          rw [show (S ++ (⟨#[47, 112]⟩ : ByteArray)).data.toList = S.data.toList ++ 47 :: [112] by simp [ByteArray.data_append], within_more]
        have hwC : withinB (S ++ (⟨#[120]⟩ : ByteArray)).data.toList S.data.toList = false := by
          rw [show (S ++ (⟨#[120]⟩ : ByteArray)).data.toList = S.data.toList ++ [120] by simp [ByteArray.data_append], within_not _ _ (by decide)]
        have hzB : (S ++ (⟨#[47, 112]⟩ : ByteArray)).size ≤ 100 := by rw [ByteArray.size_append]; show S.size + 2 ≤ 100; omega
        have hzC : (S ++ (⟨#[120]⟩ : ByteArray)).size ≤ 100 := by rw [ByteArray.size_append]; show S.size + 1 ≤ 100; omega
        have HWB := Lib.hid hwB
        have HWC := Lib.hid hwC
        have HZB := Lib.hid hzB
        have HZC := Lib.hid hzC
        have HWA := Lib.hid hwA
        have HW := Lib.hid hW
        clear hW hwA hwB hwC hzB hzC
        obtain ⟨R, hR⟩ : ∃ R : World → Prop, R = fun W => RdS L w1.heap.size w2.heap.size W (.slice A L.length c) ∧ w2.heap.size ≤ W.heap.size := ⟨_, rfl⟩
        have hJ1 : ∀ W, R W → Calls Try.prog 21 #[.slice A L.length c] W fun e w' => e = .returned (.string S) ∧ W = w' := fun W hr => by
          rw [hR] at hr
          have := implJoinPath_any _ L _ W (show SlS W w2.heap.size _ L from hr.1.1) (by omega)
          rwa [HJ2.out] at this
        have hr1 : R wr.drew := by rw [hR]; exact ⟨HX.out.2.1, HX.out.2.2⟩
        have hkeep : ∀ W W', R W → Below W.heap.size W W' → R W' := fun W W' h hb => by
          rw [hR] at h ⊢
          exact ⟨h.1.keep (Out.of_below hb W.heap.size W.heap.size) (by have := h.2; omega), Nat.le_trans h.2 hb.size⟩
        have HC1 := Lib.hid hJ1
        have HKp := Lib.hid hkeep
        clear hJ1 hkeep
        by_cases hn : L.length = 0
        · have hLn := List.eq_nil_of_length_eq_zero hn
          subst hLn
          have HBw := Lib.hid HX.out.1
          have hrN : ∀ n, R (wr.drewN n) := fun n => by rw [hR]; exact ⟨HX.out.2.1, HX.out.2.2⟩
          have HRN := Lib.hid (show ∀ n, Calls Try.prog 21 #[.slice A 0 c] (wr.drewN n) fun e w' => e = .returned (.string S) ∧ w' = wr.drewN n from fun n => (HC1.out _ (hrN n)).mono fun e w' ⟨h1, h2⟩ => ⟨h1, h2.symm⟩)
          have hqA : ∀ n, Calls Try.prog 20 #[.string S, .string S] (wr.drewN n) fun e w' => e = .returned (.bool true) ∧ w' = wr.drewN n := fun n => by
            have := (HW.out S (wr.drewN n) (by omega)).mono fun e w' ⟨h1, h2⟩ => And.intro h1 h2.symm
            rwa [HWA.out] at this
          have hqB : ∀ n, Calls Try.prog 20 #[.string (S ++ ⟨#[47, 112]⟩), .string S] (wr.drewN n) fun e w' => e = .returned (.bool true) ∧ w' = wr.drewN n := fun n => by
            have := (HW.out _ (wr.drewN n) HZB.out).mono fun e w' ⟨h1, h2⟩ => And.intro h1 h2.symm
            rwa [HWB.out] at this
          have hqC : ∀ n, Calls Try.prog 20 #[.string (S ++ ⟨#[120]⟩), .string S] (wr.drewN n) fun e w' => e = .returned (.bool false) ∧ w' = wr.drewN n := fun n => by
            have := (HW.out _ (wr.drewN n) HZC.out).mono fun e w' ⟨h1, h2⟩ => And.intro h1 h2.symm
            rwa [HWC.out] at this
          have HQA := Lib.hid hqA
          have HQB := Lib.hid hqB
          have HQC := Lib.hid hqC
          clear hqA hqB hqC
          have hsc : S.size + 2 ≤ maxLen := by unfold maxLen; omega
          clear HX HP2 HA2 HJ2 hn htt hlen hR HSZ HKp hrN
          go_wp2_with fail
          go_quiet (first
              | (go_at_call 21; refine Calls.quiet_of_same (HRN.out _))
              | (go_at_call_has 20 (⟨#[47, 112]⟩ : ByteArray); refine Calls.quiet_of_same (HQB.out _))
              | (go_at_call_has 20 (⟨#[120]⟩ : ByteArray); refine Calls.quiet_of_same (HQC.out _))
              | (go_at_call 20; refine Calls.quiet_of_same (HQA.out _)))
          go_wp2
          go_ret
          exact ⟨rfl, below_drewN HBw.out nq⟩
        · have hz : ((L.length : Int) == 0) = false := by rw [beq_eq_false_iff_ne]; omega
          have hJ2 : ∀ W, R W → Calls Try.prog 21 #[.slice (cutA A c 0 1) (L.length - 1 - 0) (c - 0)] W fun e w' => e = .returned (.string (parentOf S)) ∧ W = w' := fun W hr => by
            rw [hR] at hr
            have h1 := total_le 12 (L.take (L.length - 1)) (fun p hp => HSZ.out p (List.mem_of_mem_take hp))
            have h2 : (L.take (L.length - 1)).length ≤ 12 := by rw [List.length_take]; omega
            have := implJoinPath_any _ (L.take (L.length - 1)) _ W (sls_cut hr.1 (L.length - 1) (by omega)) (by omega)
            rwa [← HP2.out (by omega)] at this
          have hcc : L.length ≤ c ∧ c ≤ maxLen := by
            obtain ⟨_, A', c', e', h1, h2, _⟩ := HX.out.2.1.1
            cases e'
            exact ⟨h1, h2⟩
          unfold maxLen at hcc
          have hcut := run_cutH (P := Try.prog) Try.underlying22 Try.sizeOf9 A L.length c ((L.length : Int) - 1) (L.length - 1) (by omega) (by omega)
          have hPa := implParentPath_any S
          have hwr : IntKind.i64.wrap ((L.length : Int) - 1) = (L.length : Int) - 1 := IntWalk.i64_in _ (by omega)
          generalize parentOf S = Q at *
          generalize cutA A c 0 1 = A2 at *
          generalize hm2 : L.length - 1 - 0 = m2 at *
          generalize hc2 : c - 0 = c2 at *
          have HC2 := Lib.hid hJ2
          have hqA : ∀ W, Calls Try.prog 20 #[.string S, .string S] W fun e w' => e = .returned (.bool true) ∧ W = w' := fun W => by
            have := HW.out S W (by omega)
            rwa [HWA.out] at this
          have hqB : ∀ W, Calls Try.prog 20 #[.string (S ++ ⟨#[47, 112]⟩), .string S] W fun e w' => e = .returned (.bool true) ∧ W = w' := fun W => by
            have := HW.out _ W HZB.out
            rwa [HWB.out] at this
          have hqC : ∀ W, Calls Try.prog 20 #[.string (S ++ ⟨#[120]⟩), .string S] W fun e w' => e = .returned (.bool false) ∧ W = w' := fun W => by
            have := HW.out _ W HZC.out
            rwa [HWC.out] at this
          have HQA := Lib.hid hqA
          have HQB := Lib.hid hqB
          have HQC := Lib.hid hqC
          clear hqA hqB hqC
          have hb2 : ¬ (9223372036854775807 < S.size + 2) := by omega
          have hb1 : ¬ (9223372036854775807 < S.size + 1) := by omega
          have HPa := Lib.hid hPa
          have HBw := Lib.hid HX.out.1
          clear HX HP2 HA2 HJ2 hn hJ2 hPa hm2 hc2 hR HSZ htt
          go_wp2_with fail
          go_region_held3 (fun w9 => R w9)
            (first | exact hr1 | exact r9)
            (first
              | (go_at_call_has 21 A; refine (HC1.out _ hr1).mono ?_; rintro e w9 ⟨rfl, rfl⟩)
              | (go_at_call 22; refine (HPa.out _ (by omega)).mono ?_; rintro e w9 ⟨rfl, bel9⟩; have r9 := HKp.out _ _ hr1 bel9; have bb9 := below_step bel9 HBw.out.drew)
              | (go_at_call_has 21 A2; refine (HC2.out _ (by first | exact hr1 | exact r9)).mono ?_; rintro e w9' ⟨rfl, rfl⟩)
              | (go_at_call_has 20 (⟨#[47, 112]⟩ : ByteArray); refine (HQB.out _).mono ?_; rintro e w9' ⟨rfl, rfl⟩)
              | (go_at_call_has 20 (⟨#[120]⟩ : ByteArray); refine (HQC.out _).mono ?_; rintro e w9' ⟨rfl, rfl⟩)
              | (go_at_call 20; refine (HQA.out _).mono ?_; rintro e w9' ⟨rfl, rfl⟩))
          all_goals (go_wp2; go_ret; exact ⟨rfl, bb9⟩)
end Go.Proofs.Ytglminmoglncpaa.FnPaths
