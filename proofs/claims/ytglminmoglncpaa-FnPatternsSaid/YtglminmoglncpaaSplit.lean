/- The walks of SplitText, spec and impl. Condition: the text has at most 2^21 bytes. -/
import Derived.Test.YtglminmoglncpaaStrs
import Derived.Test.YtglminmoglncpaaApp
import Derived.WalkSpells
import Derived.WalkLawsBesides
namespace Go.Proofs.Ytglminmoglncpaa
open Go.RowKit
/-- The parts that end ahead of place i, and where the next one begins. -/
def partsTo (s : ByteArray) (c : UInt8) : Nat → List ByteArray × Nat
  | 0 => ([], 0)
  | i + 1 => if s.data[i]? = some c then ((partsTo s c i).1 ++ [s.extract (partsTo s c i).2 i], i + 1) else partsTo s c i
def splitT (s : ByteArray) (c : UInt8) : List ByteArray := (partsTo s c s.size).1 ++ [s.extract (partsTo s c s.size).2 s.size]
theorem partsTo_bd (s : ByteArray) (c : UInt8) (i : Nat) : (partsTo s c i).2 ≤ i ∧ (partsTo s c i).1.length ≤ i := by
  induction i with
  | zero => simp [partsTo]
  | succ i ih =>
    simp only [partsTo]
    split
    · simp; omega
    · omega
theorem data_at (s : ByteArray) (k : Nat) (h : k < s.size) : s.data[k]? = some s[k] := Array.getElem?_eq_getElem (show k < s.data.size from h)
theorem partsTo_hit (s : ByteArray) (c : UInt8) (k : Nat) (h : k < s.size) (he : s[k] = c) : partsTo s c (k + 1) = ((partsTo s c k).1 ++ [s.extract (partsTo s c k).2 k], k + 1) := by
  rw [partsTo, if_pos (by rw [data_at s k h, he])]
theorem partsTo_miss (s : ByteArray) (c : UInt8) (k : Nat) (h : k < s.size) (he : s[k] ≠ c) : partsTo s c (k + 1) = partsTo s c k := by
  rw [partsTo, if_neg (by rw [data_at s k h]; simpa using he)]
theorem sl_str_one {W : World} {z : ByteArray} {t : TypeId} {g : Nat} (hg : g = W.heap.size) : Sl (W.alloc (.cells #[.string z] t)) (W.heap.size + 1) 1 (.slice (some ⟨g, 0, none⟩) 1 1) 1 [.string z] := by
  subst hg
  refine ⟨by simp, _, _, rfl, by simp, by simp [maxLen], fun _ => ⟨W.heap.size, 0, rfl, by omega, fun j u hu => ?_⟩⟩
  match j, hu with
  | 0, hu => simp only [List.getElem?_cons_zero, Option.some.injEq] at hu; subst hu; simp [go_sem]
  | j + 1, hu => simp at hu
set_option maxHeartbeats 1000000 in
set_option maxRecDepth 100000 in
theorem implSplitText_any (s : ByteArray) (c : UInt8) (w : World) (hs : s.size ≤ 2097152) :
    Calls Try.prog 59 #[.string s, .int .u8 c.toNat] w (Fresh w 9 1 (splitT s c).length ((splitT s c).map .string)) := by
  obtain ⟨i0, hi, hz0, hz1, hz2⟩ := info_parts Try.info_str
  go_enter Try.func59, Try.ntmps59
  go_wp2
  go_loopw [5, 6, 7] (fun o f i wr => ∃ k : Nat, k ≤ s.size ∧ i = .int .i64 k ∧ f = .int .i64 (partsTo s c k).2 ∧ wr.ownsRow w.heap.size 9 1 o (partsTo s c k).1.length ((partsTo s c k).1.map .string) ∧ Below w.heap.size w wr) (fun _ _ i _ => s.size - (intOf i).toNat)
  case atStart => exact ⟨0, Nat.zero_le _, rfl, rfl, own_empty _ _ _, (Below.refl _ _).alloc (Nat.le_refl _) _⟩
  case round =>
    obtain ⟨k, hk, rfl, rfl, hown, hb⟩ := hrel
    obtain ⟨hb1, hb2⟩ := partsTo_bd s c k
    have HO := Lib.hid hown
    have HB := Lib.hid hb
    have hsz := hb.size
    clear hown hb
    by_cases hlt : k < s.size
    · by_cases he : s[k] = c
      · have hbe : ((s[k].toNat : Int) == (c.toNat : Int)) = true := by rw [he]; simp
        have hp := partsTo_hit s c k hlt he
        go_wp2_with (at_builtin; refine wpList_app _ rfl (.tmp 20) (.tmp 25) 22 rfl w.heap.size 9 i0 (.string ⟨#[]⟩) 1 16 Try.underlying22 hi hz0 hz1 hz2 rfl (by decide) _ (partsTo s c k).1.length _ rfl (own_below HO.out ((Below.refl _ _).alloc (Nat.le_refl _) _) (Nat.le_refl _)) _ 1 _ [.string (s.extract (partsTo s c k).2 k)] rfl (sl_str_one rfl) (by simp [Value.oneCell']) (by omega) (by unfold maxLen; omega) (by simp; omega) ?_; intro v2 w2 own2 hg2 _)
        have hbel := below_app hg2 (own_below HO.out ((Below.refl _ _).alloc (Nat.le_refl _) _) (Nat.le_refl _)) (Nat.le_refl _) (by simp; omega) (HB.out.alloc hsz _)
        have H := Lib.hid (And.intro own2 hbel)
        have HP := Lib.hid hp
        clear own2 hg2 hbel HO HB hp
        go_roundw
        case rel => exact ⟨k + 1, by omega, by go_num, by rw [HP.out]; go_num, by rw [HP.out]; simpa using H.out.1, H.out.2⟩
        case measure => simp [intOf]; omega
      · have hbe : ((s[k].toNat : Int) == (c.toNat : Int)) = false := by
          rw [beq_eq_false_iff_ne]; intro hx; exact he (UInt8.toNat_inj.1 (by omega))
        have HP := Lib.hid (partsTo_miss s c k hlt he)
        go_wp2
        go_roundw
        case rel => exact ⟨k + 1, by omega, by go_num, by rw [HP.out], by rw [HP.out]; exact HO.out, HB.out⟩
        case measure => simp [intOf]; omega
    · obtain rfl : k = s.size := by omega
      generalize hk' : s.size = k at *
      go_wp2_with (at_builtin; refine wpList_app _ rfl (.tmp 29) (.tmp 33) 22 rfl w.heap.size 9 i0 (.string ⟨#[]⟩) 1 16 Try.underlying22 hi hz0 hz1 hz2 rfl (by decide) _ (partsTo s c k).1.length _ rfl (own_below HO.out ((Below.refl _ _).alloc (Nat.le_refl _) _) (Nat.le_refl _)) _ 1 _ [.string (s.extract (partsTo s c k).2 k)] rfl (sl_str_one rfl) (by simp [Value.oneCell']) (by omega) (by unfold maxLen; omega) (by simp; omega) ?_; intro v2 w2 own2 hg2 _)
      have hbel := below_app hg2 (own_below HO.out ((Below.refl _ _).alloc (Nat.le_refl _) _) (Nat.le_refl _)) (Nat.le_refl _) (by simp; omega) (HB.out.alloc hsz _)
      go_ret
      exact ⟨_, rfl, by simpa [splitT, hk'] using own2, hbel⟩
/-- As spec counts: one round more, which ends the last part. -/
def partsS (s : ByteArray) (c : UInt8) (k : Nat) : List ByteArray × Nat := if k ≤ s.size then partsTo s c k else (splitT s c, s.size + 1)
set_option maxHeartbeats 1000000 in
set_option maxRecDepth 100000 in
theorem specSplitText_any (s : ByteArray) (c : UInt8) (w : World) (hs : s.size ≤ 2097152) :
    Calls Try.prog 27 #[.string s, .int .u8 c.toNat] w (Fresh w 9 1 (splitT s c).length ((splitT s c).map .string)) := by
  obtain ⟨i0, hi, hz0, hz1, hz2⟩ := info_parts Try.info_str
  have H0 := Lib.hid (show partsS s c 0 = ([], 0) by simp [partsS, partsTo])
  go_enter Try.func27, Try.ntmps27
  go_wp2
  go_loopw [5, 6, 7] (fun o f i wr => ∃ k : Nat, k ≤ s.size + 1 ∧ i = .int .i64 k ∧ f = .int .i64 (partsS s c k).2 ∧ wr.ownsRow w.heap.size 9 1 o (partsS s c k).1.length ((partsS s c k).1.map .string) ∧ Below w.heap.size w wr) (fun _ _ i _ => s.size + 1 - (intOf i).toNat)
  case atStart => exact ⟨0, Nat.zero_le _, rfl, by rw [H0.out]; rfl, by rw [H0.out]; exact own_empty _ _ _, (Below.refl _ _).alloc (Nat.le_refl _) _⟩
  case round =>
    obtain ⟨k, hk, rfl, rfl, hown, hb⟩ := hrel
    by_cases hle : k ≤ s.size
    · rw [show partsS s c k = partsTo s c k from if_pos hle] at *
      obtain ⟨hb1, hb2⟩ := partsTo_bd s c k
      have HO := Lib.hid hown
      have HB := Lib.hid hb
      have hsz := hb.size
      clear hown hb H0
      by_cases hlt : k < s.size
      · have hne : ((k : Int) == (s.size : Int)) = false := by rw [beq_eq_false_iff_ne]; omega
        by_cases he : s[k] = c
        · have hbe : ((s[k].toNat : Int) == (c.toNat : Int)) = true := by rw [he]; simp
          have hp := partsTo_hit s c k hlt he
          have HP := Lib.hid (show partsS s c (k + 1) = ((partsTo s c k).1 ++ [s.extract (partsTo s c k).2 k], k + 1) by rw [← hp]; exact if_pos (by omega))
          clear hp
          go_wp2_with (at_builtin; refine wpList_app _ rfl (.tmp 26) (.tmp 31) 22 rfl w.heap.size 9 i0 (.string ⟨#[]⟩) 1 16 Try.underlying22 hi hz0 hz1 hz2 rfl (by decide) _ (partsTo s c k).1.length _ rfl (own_below HO.out ((Below.refl _ _).alloc (Nat.le_refl _) _) (Nat.le_refl _)) _ 1 _ [.string (s.extract (partsTo s c k).2 k)] rfl (sl_str_one rfl) (by simp [Value.oneCell']) (by omega) (by unfold maxLen; omega) (by simp; omega) ?_; intro v2 w2 own2 hg2 _)
          have hbel := below_app hg2 (own_below HO.out ((Below.refl _ _).alloc (Nat.le_refl _) _) (Nat.le_refl _)) (Nat.le_refl _) (by simp; omega) (HB.out.alloc hsz _)
          have H := Lib.hid (And.intro own2 hbel)
          clear own2 hg2 hbel HO HB
          go_roundw
          case rel => exact ⟨k + 1, by omega, by go_num, by rw [HP.out]; go_num, by rw [HP.out]; simpa using H.out.1, H.out.2⟩
          case measure => simp [intOf]; omega
        · have hbe : ((s[k].toNat : Int) == (c.toNat : Int)) = false := by
            rw [beq_eq_false_iff_ne]; intro hx; exact he (UInt8.toNat_inj.1 (by omega))
          have hp := partsTo_miss s c k hlt he
          have HP := Lib.hid (show partsS s c (k + 1) = partsTo s c k by rw [← hp]; exact if_pos (by omega))
          clear hp
          go_wp2
          go_roundw
          case rel => exact ⟨k + 1, by omega, by go_num, by rw [HP.out], by rw [HP.out]; exact HO.out, HB.out⟩
          case measure => simp [intOf]; omega
      · have hks : k = s.size := by omega
        have heq : ((k : Int) == (s.size : Int)) = true := by rw [hks]; simp
        have HP := Lib.hid (show partsS s c (k + 1) = ((partsTo s c k).1 ++ [s.extract (partsTo s c k).2 k], k + 1) by rw [hks]; exact if_neg (by omega))
        have hge : s.size ≤ k := by omega
        clear hks
        go_wp2_with (at_builtin; refine wpList_app _ rfl (.tmp 26) (.tmp 31) 22 rfl w.heap.size 9 i0 (.string ⟨#[]⟩) 1 16 Try.underlying22 hi hz0 hz1 hz2 rfl (by decide) _ (partsTo s c k).1.length _ rfl (own_below HO.out ((Below.refl _ _).alloc (Nat.le_refl _) _) (Nat.le_refl _)) _ 1 _ [.string (s.extract (partsTo s c k).2 k)] rfl (sl_str_one rfl) (by simp [Value.oneCell']) (by omega) (by unfold maxLen; omega) (by simp; omega) ?_; intro v2 w2 own2 hg2 _)
        have hbel := below_app hg2 (own_below HO.out ((Below.refl _ _).alloc (Nat.le_refl _) _) (Nat.le_refl _)) (Nat.le_refl _) (by simp; omega) (HB.out.alloc hsz _)
        have H := Lib.hid (And.intro own2 hbel)
        clear own2 hg2 hbel HO HB
        go_roundw
        case rel => exact ⟨k + 1, by omega, by go_num, by rw [HP.out]; go_num, by rw [HP.out]; simpa using H.out.1, H.out.2⟩
        case measure => simp [intOf]; omega
    · rw [show partsS s c k = (splitT s c, s.size + 1) from if_neg hle] at *
      have H := Lib.hid (And.intro hown hb)
      clear hown hb H0
      go_wp2
      go_ret
      exact ⟨_, rfl, H.out.1, H.out.2⟩
end Go.Proofs.Ytglminmoglncpaa
