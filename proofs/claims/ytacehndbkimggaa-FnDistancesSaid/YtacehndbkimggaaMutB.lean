/- The walks of MutateBytes, spec and impl. Conditions: the slice reads as a list of at most 2^20 bytes. -/
import Derived.Test.YtacehndbkimggaaMutOf
import Derived.Test.YtacehndbkimggaaMutApply
import Derived.Test.YtacehndbkimggaaMutApplyI
import Derived.Test.YtacehndbkimggaaMinMax
import Derived.WalkSpells
import Derived.WalkLawsBesides
import Derived.BigQuiet
import Derived.Deep.QuietTactic
import Derived.Deep.RegionHeld3
namespace Go.Proofs.Ytacehndbkimggaa
open Go.RowKit
theorem own_slice2 {w : World} {base : Nat} {e : TypeId} {size : Nat} {v : Value} {n : Nat} {xs : List Value} (h : w.ownsRow base e size v n xs) :
    ∃ A c, v = .slice A n c ∧ n ≤ c ∧ c ≤ maxLen ∧ (0 < n → ∃ g, A = some ⟨g, 0, none⟩ ∧ base ≤ g) := by
  rcases h.2 with ⟨rfl, rfl⟩ | ⟨g, cap, cur, rfl, hb, hg, hc, hm, _⟩
  · exact ⟨none, 0, rfl, Nat.le_refl _, Nat.zero_le _, fun h => absurd h (by omega)⟩
  · exact ⟨_, _, rfl, hc, hm, fun _ => ⟨g, rfl, hb⟩⟩
def mbIt (s : Int) (l : List UInt8) : Nat → List UInt8
  | 0 => l
  | k + 1 => mutL (mbIt s l k) (mOf (mbIt s l k).length (wrap64 (s + k)))
def mbN (l : List UInt8) (c : Int) : Nat := if l.length ≤ 380 then (min (max c 0) 20).toNat else 0
def mbL (l : List UInt8) (s c : Int) : List UInt8 := mbIt s l (mbN l c)
theorem mutL_len (l : List UInt8) (m : Muta) : (mutL l m).length ≤ l.length + 1 := by
  unfold mutL spliceL
  split
  · split
    · simp; omega
    · split
      · simp; omega
      · simp; omega
  · omega
theorem mbIt_len (s : Int) (l : List UInt8) (k : Nat) : (mbIt s l k).length ≤ l.length + k := by
  induction k with
  | zero => simp [mbIt]
  | succ k ih => have := mutL_len (mbIt s l k) (mOf (mbIt s l k).length (wrap64 (s + k))); simp only [mbIt]; omega
theorem mOf_ok (n s : Int) : (mOf n s).ok := by
  have b1 := nextNo_bd s
  have b2 := nextNo_bd (nextNo s)
  have b3 := nextNo_bd (nextNo (nextNo s))
  unfold mOf
  split
  · rename_i h
    have e1 := Int.emod_nonneg (nextNo (nextNo s)) (show n + 1 ≠ 0 by omega)
    have e2 := Int.emod_lt_of_pos (nextNo (nextNo s)) (show 0 < n + 1 by omega)
    split
    · exact ⟨⟨by simp, by simp⟩, ⟨by simp only; omega, by simp only; omega⟩, ⟨by simp only; omega, by simp only; omega⟩⟩
    · have e3 := Int.emod_nonneg (nextNo (nextNo s)) (show n ≠ 0 by omega)
      have e4 := Int.emod_lt_of_pos (nextNo (nextNo s)) (show 0 < n by omega)
      split
      · exact ⟨⟨by simp, by simp⟩, ⟨by simp only; omega, by simp only; omega⟩, ⟨by simp only; omega, by simp only; omega⟩⟩
      · split
        · exact ⟨⟨by simp, by simp⟩, ⟨by simp only; omega, by simp only; omega⟩, ⟨by simp only; omega, by simp only; omega⟩⟩
        · exact ⟨⟨by simp, by simp⟩, ⟨by simp only; omega, by simp only; omega⟩, ⟨by simp, by simp⟩⟩
  · exact ⟨⟨by simp, by simp⟩, ⟨by simp, by simp⟩, ⟨by simp, by simp⟩⟩

set_option maxHeartbeats 2000000 in
set_option maxRecDepth 100000 in
theorem specMutB_any (v : Value) (l : List UInt8) (s c : Int) (B : Nat) (w : World) (h : SlB w B v l) (hB : B ≤ w.heap.size) (hl : l.length ≤ 1048576) :
    Calls Try.prog 22 #[v, .int .i64 s, .int .i64 c] w (Fresh w 5 1 (mbL l s c).length (u8s (mbL l s c))) := by
  obtain ⟨i0, hi, hz0, hz1, hz2⟩ := info_parts Try.info_u8
  have H0 := Lib.hid h
  obtain ⟨A, cp, rfl, hc, hcm, hcell⟩ := h.open_
  unfold maxLen at hcm
  clear hcell h
  have HN := Lib.hid (show mbN l c = if l.length ≤ 380 then (min (max c 0) 20).toNat else 0 from rfl)
  go_enter Try.func22, Try.ntmps22
  go_wp2_with (at_builtin; refine wpList_app _ rfl (.tmp 11) (.tmp 12) 22 rfl w.heap.size 5 i0 (.int .u8 0) 1 1 Try.underlying22 hi hz0 hz1 hz2 rfl (by decide) _ 0 [] rfl (by exact own_empty_at (by simp) (by simp)) B l.length _ (u8s l) rfl (SlB.below H0.out ((Below.refl _ _).alloc hB _)) (u8s_one _) (by omega) (by unfold maxLen; omega) (by simp) ?_; intro v6 w1 own6 hg6 _; have bb := below_app_empty_at hg6 (by simp); rw [Nat.zero_add, List.nil_append] at own6; clear hg6)
  go_loopw [7, 8, 9, 10] (fun o i _ _ wr => ∃ k : Nat, k ≤ mbN l c ∧ i = .int .i64 k ∧ wr.ownsRow w.heap.size 5 1 o (mbIt s l k).length (u8s (mbIt s l k)) ∧ Below w.heap.size w wr) (fun _ i _ _ _ => mbN l c - (intOf i).toNat)
  case atStart => exact ⟨0, Nat.zero_le _, rfl, own6, bb⟩
  case round =>
    obtain ⟨k, hk, rfl, hown, hb⟩ := hrel
    clear own6 bb
    by_cases hlt : k < mbN l c
    · have hall : l.length ≤ 380 ∧ (k : Int) < c ∧ (k : Int) < 20 := by
        rw [HN.out] at hlt
        split at hlt
        · exact ⟨by omega, by omega, by omega⟩
        · omega
      obtain ⟨h1, h2, h3⟩ := hall
      have hlen := mbIt_len s l k
      have d1 : decide ((l.length : Int) ≤ 380) = true := decide_eq_true (by omega)
      have d2 : decide ((k : Int) < c) = true := decide_eq_true h2
      have d3 : decide ((k : Int) < 20) = true := decide_eq_true h3
      have HS := Lib.hid (show mutL (mbIt s l k) (mOf (mbIt s l k).length (wrap64 (s + k))) = mbIt s l (k + 1) from rfl)
      generalize mbIt s l k = L at hlen HS hown
      have HC : ∀ w' : World, Calls Try.prog 20 #[.int .i64 L.length, .int .i64 (wrap64 (s + k))] w' (MutIs (mOf L.length (wrap64 (s + k))) w') := fun w' => specMutOf_any _ _ w' (by omega)
      have HK := mOf_ok L.length (wrap64 (s + k))
      generalize mOf L.length (wrap64 (s + k)) = m at HC HS HK
      have HC := Lib.hid HC
      have HK := Lib.hid HK
      have HO := Lib.hid hown
      have HBB := Lib.hid hb
      obtain ⟨A2, c2, rfl, hc2, hm2, _⟩ := own_slice2 hown
      unfold maxLen at hm2
      have hsz := hb.size
      clear hown hb
      go_wp2_with (first | (go_at_call 20; refine (HC.out _).mono ?_; rintro e w2 ⟨rfl, bel2⟩) | (go_at_call 10; refine (specApply_any _ L m _ _ (own_u8 (own_below HO.out bel2 (Nat.le_refl _))) (Nat.le_refl _) (by omega) HK.out).mono ?_; rintro e w3 ⟨v3, rfl, own3, bel3⟩))
      rw [HS.out] at own3
      have bel4 := below_step bel3 (below_step bel2 HBB.out)
      have H := Lib.hid (And.intro (own_base own3 (Nat.le_trans hsz bel2.size)) bel4)
      clear own3 bel3 bel4 bel2 HO HBB
      go_roundw
      case rel => exact ⟨k + 1, by omega, by go_num, H.out.1, H.out.2⟩
      case measure => simp [intOf]; omega
    · have hk2 : k = mbN l c := by omega
      have H := Lib.hid (And.intro hown hb)
      rw [hk2] at H
      obtain ⟨A2, c2, rfl, hc2, hm2, _⟩ := own_slice2 hown
      clear hown hb
      by_cases h2 : (k : Int) < c
      · by_cases h3 : (k : Int) < 20
        · have h1 : ¬ (l.length : Int) ≤ 380 := by
            intro hh
            rw [HN.out, if_pos (by omega)] at hk2
            omega
          have d1 : decide ((l.length : Int) ≤ 380) = false := decide_eq_false h1
          have d2 : decide ((k : Int) < c) = true := decide_eq_true h2
          have d3 : decide ((k : Int) < 20) = true := decide_eq_true h3
          clear HN hk2
          go_wp2
          go_ret
          exact ⟨_, rfl, H.out.1, H.out.2⟩
        · have d2 : decide ((k : Int) < c) = true := decide_eq_true h2
          have d3 : decide ((k : Int) < 20) = false := decide_eq_false h3
          clear HN hk2
          go_wp2
          go_ret
          exact ⟨_, rfl, H.out.1, H.out.2⟩
      · have d2 : decide ((k : Int) < c) = false := decide_eq_false h2
        clear HN hk2
        go_wp2
        go_ret
        exact ⟨_, rfl, H.out.1, H.out.2⟩
set_option maxHeartbeats 2000000 in
set_option maxRecDepth 100000 in
theorem implMutB_any (v : Value) (l : List UInt8) (s c : Int) (B : Nat) (w : World) (h : SlB w B v l) (hB : B ≤ w.heap.size) (hl : l.length ≤ 1048576) :
    Calls Try.prog 23 #[v, .int .i64 s, .int .i64 c] w (Fresh w 5 1 (mbL l s c).length (u8s (mbL l s c))) := by
  obtain ⟨i0, hi, hz0, hz1, hz2⟩ := info_parts Try.info_u8
  have H0 := Lib.hid h
  obtain ⟨A, cp, rfl, hc, hcm, hcell⟩ := h.open_
  unfold maxLen at hcm
  clear hcell h
  by_cases h1 : (l.length : Int) ≤ 380
  · obtain ⟨N, hN⟩ : ∃ N : Nat, min (max c 0) 20 = (N : Int) := ⟨(min (max c 0) 20).toNat, by omega⟩
    have hN20 : N ≤ 20 := by omega
    have HN := Lib.hid (show mbN l c = N by unfold mbN; rw [if_pos (by omega), hN]; rfl)
    have HX : ∀ w' : World, Calls Try.prog 41 #[.int .i64 c, .int .i64 0] w' fun e w'' => e = .returned (.int .i64 (max c 0)) ∧ Below w'.heap.size w' w'' := fun w' => iMax_any _ _ _
    have HM : ∀ w' : World, Calls Try.prog 40 #[.int .i64 (max c 0), .int .i64 20] w' fun e w'' => e = .returned (.int .i64 N) ∧ Below w'.heap.size w' w'' := fun w' => by
      have := iMin_any (max c 0) 20 w'; rw [hN] at this; exact this
    generalize max c 0 = mc at HX HM hN
    clear hN
    have HX := Lib.hid HX
    have HM := Lib.hid HM
    have d1 : decide (380 < (l.length : Int)) = false := decide_eq_false (by omega)
    go_enter Try.func23, Try.ntmps23
    go_wp2_with (first | (go_at_call 41; refine (HX.out _).mono ?_; rintro e w2 ⟨rfl, bel2⟩) | (go_at_call 40; refine (HM.out _).mono ?_; rintro e w3 ⟨rfl, bel3⟩) | (at_builtin; refine wpList_app _ rfl (.tmp 9) (.tmp 10) 22 rfl w.heap.size 5 i0 (.int .u8 0) 1 1 Try.underlying22 hi hz0 hz1 hz2 rfl (by decide) _ 0 [] rfl (by exact own_empty_at (by simp) (by simp)) B l.length _ (u8s l) rfl (SlB.below H0.out ((Below.refl _ _).alloc hB _)) (u8s_one _) (by omega) (by unfold maxLen; omega) (by simp) ?_; intro v6 w1 own6 hg6 _; have bb := below_app_empty_at hg6 (by simp); rw [Nat.zero_add, List.nil_append] at own6; clear hg6))
    have own7 := own_below (own_below own6 bel2 (Nat.le_refl _)) bel3 (Nat.le_refl _)
    have bb := below_step bel3 (below_step bel2 bb)
    clear bel2 bel3 own6
    go_loopw [7, 8, 19] (fun o _ i wr => ∃ k : Nat, k ≤ N ∧ i = .int .i64 k ∧ wr.ownsRow w.heap.size 5 1 o (mbIt s l k).length (u8s (mbIt s l k)) ∧ Below w.heap.size w wr) (fun _ _ i _ => N - (intOf i).toNat)
    case atStart => exact ⟨0, Nat.zero_le _, rfl, own7, bb⟩
    case round =>
      obtain ⟨k, hk, rfl, hown, hb⟩ := hrel
      clear own7 bb
      by_cases hlt : k < N
      · have hlen := mbIt_len s l k
        have d2 : decide ((k : Int) < N) = true := decide_eq_true (by omega)
        have HS := Lib.hid (show mutL (mbIt s l k) (mOf (mbIt s l k).length (wrap64 (s + k))) = mbIt s l (k + 1) from rfl)
        generalize mbIt s l k = L at hlen HS hown
        have HC : ∀ w' : World, Calls Try.prog 21 #[.int .i64 L.length, .int .i64 (wrap64 (s + k))] w' (MutIs (mOf L.length (wrap64 (s + k))) w') := fun w' => implMutOf_any _ _ w' (by omega)
        have HK := mOf_ok L.length (wrap64 (s + k))
        generalize mOf L.length (wrap64 (s + k)) = m at HC HS HK
        have HC := Lib.hid HC
        have HK := Lib.hid HK
        have HO := Lib.hid hown
        have HBB := Lib.hid hb
        obtain ⟨A2, c2, rfl, hc2, hm2, _⟩ := own_slice2 hown
        unfold maxLen at hm2
        have hsz := hb.size
        clear hown hb
        go_wp2_with (first | (go_at_call 21; refine (HC.out _).mono ?_; rintro e w2 ⟨rfl, bel2⟩) | (go_at_call 13; refine (implApply_any _ L m _ _ (own_u8 (own_below HO.out bel2 (Nat.le_refl _))) (Nat.le_refl _) (by omega) HK.out).mono ?_; rintro e w3 ⟨v3, rfl, own3, bel3⟩))
        rw [HS.out] at own3
        have bel4 := below_step bel3 (below_step bel2 HBB.out)
        have H := Lib.hid (And.intro (own_base own3 (Nat.le_trans hsz bel2.size)) bel4)
        clear own3 bel3 bel4 bel2 HO HBB
        go_roundw
        case rel => exact ⟨k + 1, by omega, by go_num, H.out.1, H.out.2⟩
        case measure => simp [intOf]; omega
      · have hk2 : k = N := by omega
        have H := Lib.hid (And.intro hown hb)
        rw [hk2, ← HN.out] at H
        have d2 : decide ((k : Int) < N) = false := decide_eq_false (by omega)
        clear hown hb
        go_wp2
        go_ret
        exact ⟨_, rfl, H.out.1, H.out.2⟩
  · have HL := Lib.hid (show mbL l s c = l by unfold mbL mbN; rw [if_neg (by omega)]; rfl)
    have d1 : decide (380 < (l.length : Int)) = true := decide_eq_true (by omega)
    go_enter Try.func23, Try.ntmps23
    go_wp2_with (at_builtin; refine wpList_app _ rfl (.tmp 9) (.tmp 10) 22 rfl w.heap.size 5 i0 (.int .u8 0) 1 1 Try.underlying22 hi hz0 hz1 hz2 rfl (by decide) _ 0 [] rfl (by exact own_empty_at (by simp) (by simp)) B l.length _ (u8s l) rfl (SlB.below H0.out ((Below.refl _ _).alloc hB _)) (u8s_one _) (by omega) (by unfold maxLen; omega) (by simp) ?_; intro v6 w1 own6 hg6 _; have bb := below_app_empty_at hg6 (by simp); rw [Nat.zero_add, List.nil_append] at own6; clear hg6)
    go_ret
    exact ⟨_, rfl, by rw [HL.out]; exact own6, bb⟩
end Go.Proofs.Ytacehndbkimggaa
