/- The walks of spec.FormatInt, spec.ParseInt and impl.ParseInt. Every int, every string. -/
import Derived.Test.YtkfmdkogifmfmaaDoorNum
import Derived.Test.YtkfmdkogifmfmaaDoorDec
import Derived.WalkSpells
import Derived.WalkLawsBesides
import Derived.BigGuardPart
namespace Go.Proofs.YtkfmdkogifmfmaaDoor
set_option linter.unusedSimpArgs false
set_option linter.unusedVariables false
open Go.RowKit

theorem val_int {k : IntKind} {a b : Int} (h : a = b) : Value.int k a = .int k b := by rw [h]

def str (l : List UInt8) : ByteArray := ⟨l.toArray⟩
theorem str_data (l : List UInt8) : (str l).data.toList = l := by simp [str]
theorem str_size (l : List UInt8) : (str l).size = l.length := by simp [str, ByteArray.size]

/-- The letter of a digit. -/
def dch (m : Nat) : UInt8 := UInt8.ofNat (48 + m)
theorem dch_size (m : Nat) : (str [dch m]).size = 1 := by rw [str_size]; rfl
theorem str_cons (c : UInt8) (S : List UInt8) : str [c] ++ str S = str (c :: S) := by
  unfold str; rw [ByteArray.mk_append_mk]; rfl

theorem digs_cons (m : Nat) (h : m ≠ 0) (S : List UInt8) : digs m ++ S = digs (m / 10) ++ (dch (m % 10) :: S) := by
  rw [digs_pos h]; simp [dch]

theorem conv_one (W : World) (z : Int) (d : Nat) (h : z = 48 + (d : Int)) (hd : d < 10) :
    (convert 40 9 (.slice (some ⟨W.heap.size, 0, none⟩) 1 1)).run Tryd.prog (W.alloc (.cells #[.int .u8 z] 5)) = .ok (.string (str [dch d])) (W.alloc (.cells #[.int .u8 z] 5)) := by
  subst h
  refine run_convert_bytes_back (P := Tryd.prog) _ 40 9 5 ⟨W.heap.size, 0, none⟩ 1 [UInt8.ofNat (48 + d)] Tryd.underlying40 Tryd.underlying5 Tryd.underlying9 ?_
  intro j hj
  obtain rfl : j = 0 := by simpa using hj
  have e : (([UInt8.ofNat (48 + d)][0]'hj).toNat : Int) = 48 + (d : Int) := by
    show ((UInt8.ofNat (48 + d)).toNat : Int) = _
    rw [digit_ofNat _ hd]; omega
  rw [e]
  simp [go_sem, Addr.add]

set_option maxHeartbeats 1000000 in
set_option maxRecDepth 100000 in
theorem specFormatInt_any (n : Int) (w : World) (hn : -9223372036854775808 ≤ n ∧ n ≤ 9223372036854775807) :
    Calls Tryd.prog 42 #[.int .i64 n] w fun e w' => e = .returned (.string (str (fmtI n))) ∧ Below w.heap.size w w' := by
  obtain ⟨hn0, hn1⟩ := hn
  by_cases hz : n = 0
  · subst hz
    have HX := Lib.hid (show fmtI 0 = [48] from rfl)
    go_enter Tryd.func42, Tryd.ntmps42
    go_wp2
    go_ret
    exact ⟨ret_str (by rw [HX.out]; rfl), Below.refl _ _⟩
  · have hzb : (n == 0) = false := by simpa using hz
    have hlen := digs_length n.natAbs 19 (by omega)
    have HZ := Lib.hid hz
    clear hz
    go_enter Tryd.func42, Tryd.ntmps42
    go_wp2
    go_loopw [3, 4] (fun s i wr => ∃ (x : Int) (S : List UInt8), i = .int .i64 x ∧ s = .string (str S) ∧ -9223372036854775808 ≤ x ∧ x ≤ 9223372036854775807 ∧ (n < 0 → x ≤ 0) ∧ (0 ≤ n → 0 ≤ x) ∧ digs n.natAbs = digs x.natAbs ++ S ∧ Below w.heap.size w wr) (fun _ i _ => (intOf i).natAbs)
    case atStart => exact ⟨n, [], rfl, rfl, hn0, hn1, by omega, by omega, by simp, Below.refl _ _⟩
    case round =>
      obtain ⟨x, S, rfl, rfl, hx0, hx1, hs1, hs2, hd, hb⟩ := hrel
      have HD := Lib.hid hd
      have hSl : (str S).size ≤ 19 := by
        have := congrArg List.length hd
        rw [List.length_append] at this
        rw [str_size]; omega
      clear hd
      by_cases hx : x = 0
      · subst hx
        have HE := Lib.hid (HD.out.trans (by rw [show (0 : Int).natAbs = 0 from rfl, digs_zero, List.nil_append]))
        clear HD hx0 hx1 hs1 hs2
        by_cases hneg : n < 0
        · have HF := Lib.hid (show fmtI n = 45 :: digs n.natAbs by unfold fmtI; rw [if_neg HZ.out, if_pos hneg])
          go_wp2
          go_ret
          exact ⟨ret_str (by rw [HF.out, HE.out]; rfl), hb⟩
        · have HF := Lib.hid (show fmtI n = digs n.natAbs by unfold fmtI; rw [if_neg HZ.out, if_neg hneg])
          go_wp2
          go_ret
          exact ⟨ret_str (by rw [HF.out, HE.out]), hb⟩
      · have hxb : (x == 0) = false := by simpa using hx
        have hxn : x.natAbs ≠ 0 := by omega
        have HN := Lib.hid (HD.out.trans (digs_cons x.natAbs hxn S))
        have HX := Lib.hid hx
        clear hx
        by_cases hpos : 0 ≤ x
        · have hcv := conv_one wr (48 + x % 10) (x.natAbs % 10) (by omega) (by omega)
          have hm : ¬ x % 10 < 0 := by omega
          have hsz := dch_size (x.natAbs % 10)
          have hsz1 : (str [dch (x.natAbs % 10)]).size ≤ 1 := by omega
          clear hsz
          have HB := Lib.hid (hb.alloc hb.size (.cells #[.int .u8 (48 + x % 10)] 5))
          go_wp2
          go_roundw
          case rel =>
            refine ⟨x / 10, dch (x.natAbs % 10) :: S, rfl, by rw [str_cons], by omega, by omega, by omega, by omega, ?_, HB.out⟩
            rw [HN.out, show (x / 10).natAbs = x.natAbs / 10 from by omega]
          case measure => have := HX.out; simp [intOf]; omega
        · have t1 := Int.tmod_eq_emod_of_nonneg (show 0 ≤ -x by omega) (b := 10)
          rw [Int.neg_tmod] at t1
          have t2 : -10 < x.tmod 10 := by omega
          have t3 : x.tmod 10 ≤ 0 := by omega
          have hsz := dch_size (x.natAbs % 10)
          have hsz1 : (str [dch (x.natAbs % 10)]).size ≤ 1 := by omega
          clear hsz
          have HT := Lib.hid (show x.tdiv 10 = -((-x) / 10) by
            have := Int.tdiv_eq_ediv_of_nonneg (show 0 ≤ -x by omega) (b := 10)
            rw [Int.neg_tdiv] at this
            omega)
          by_cases hz0 : x.tmod 10 < 0
          · have hcv := conv_one wr (48 + -x % 10) (x.natAbs % 10) (by omega) (by omega)
            have HB := Lib.hid (hb.alloc hb.size (.cells #[.int .u8 (48 + -x % 10)] 5))
            go_wp2
            go_roundw
            case rel =>
              have e := HT.out
              refine ⟨x.tdiv 10, dch (x.natAbs % 10) :: S, rfl, by rw [str_cons], by omega, by omega, by omega, by omega, ?_, HB.out⟩
              rw [HN.out, show (x.tdiv 10).natAbs = x.natAbs / 10 from by omega]
            case measure => have := HX.out; have e := HT.out; show (x.tdiv 10).natAbs < x.natAbs; omega
          · have ht0 : x.tmod 10 = 0 := by omega
            have ed : x.natAbs % 10 = 0 := by omega
            have hcv := conv_one wr 48 (x.natAbs % 10) (by omega) (by omega)
            have HB := Lib.hid (hb.alloc hb.size (.cells #[.int .u8 48] 5))
            clear t1 t2 t3 hz0 ed
            go_wp2
            go_roundw
            case rel =>
              have e := HT.out
              refine ⟨x.tdiv 10, dch (x.natAbs % 10) :: S, rfl, by rw [str_cons], by omega, by omega, by omega, by omega, ?_, HB.out⟩
              rw [HN.out, show (x.tdiv 10).natAbs = x.natAbs / 10 from by omega]
            case measure => have := HX.out; have e := HT.out; show (x.tdiv 10).natAbs < x.natAbs; omega

/-! ### ParseInt -/
def allDig (l : List UInt8) : Bool := l.all isDig
/-- The text is that of a number from 0 to 10^12. -/
def isNum (l : List UInt8) : Bool := decide (1 ≤ l.length) && (decide (l.length ≤ 13) && (allDig l && (!(l.head? == some 48 && decide (1 < l.length)) && decide (valD l ≤ 1000000000000))))
def numOf (l : List UInt8) : Int := if isNum l then (valD l : Int) else 0

theorem valD_take (s : ByteArray) (k : Nat) (h : k < s.size) : valD (s.data.toList.take (k + 1)) = 10 * valD (s.data.toList.take k) + (s[k].toNat - 48) := by
  have h' : k < s.data.toList.length := by rw [← Lib.size_eq]; exact h
  rw [List.take_succ_eq_append_getElem h', valD_snoc]
  rfl
theorem allDig_take (s : ByteArray) (k : Nat) (h : k < s.size) : allDig (s.data.toList.take (k + 1)) = (allDig (s.data.toList.take k) && isDig s[k]) := by
  have h' : k < s.data.toList.length := by rw [← Lib.size_eq]; exact h
  rw [List.take_succ_eq_append_getElem h', allDig, List.all_append]
  simp [allDig]
  rfl
theorem allDig_no (s : ByteArray) (k : Nat) (h : k < s.size) (hd : isDig s[k] = false) : allDig s.data.toList = false := by
  have h' : k < s.data.toList.length := by rw [← Lib.size_eq]; exact h
  rw [allDig, List.all_eq_false]
  exact ⟨s[k], List.getElem_mem h', by rw [hd]; simp⟩
theorem valD_take_bd (l : List UInt8) (k : Nat) (h : allDig (l.take k) = true) (hk : k ≤ 13) : valD (l.take k) < 10000000000000 := by
  have h1 := valD_bd (l.take k) (by simpa [allDig] using h)
  have h2 : (l.take k).length ≤ 13 := by rw [List.length_take]; omega
  have h3 : 10 ^ (l.take k).length ≤ 10 ^ 13 := Nat.pow_le_pow_right (by omega) h2
  omega

theorem take_size (s : ByteArray) : s.data.toList.take s.size = s.data.toList := by rw [Lib.size_eq]; exact List.take_length

set_option maxHeartbeats 2000000 in
set_option maxRecDepth 100000 in
theorem implParseInt_any (s : ByteArray) (w : World) (hs : s.size ≤ maxLen) :
    Calls Tryd.prog 35 #[.string s] w fun e w' => e = .returned (.tuple #[.int .i64 (numOf s.data.toList), .bool (isNum s.data.toList)]) ∧ w = w' := by
  unfold maxLen at hs
  have hlen : s.data.toList.length = s.size := (Lib.size_eq s).symm
  have no : isNum s.data.toList = false → (Ending.returned (.tuple #[.int .i64 0, .bool false]) = .returned (.tuple #[.int .i64 (numOf s.data.toList), .bool (isNum s.data.toList)])) := by
    intro h; rw [numOf, h]; simp
  by_cases h0 : s.size = 0
  · have H := Lib.hid (show isNum s.data.toList = false by simp [isNum, hlen, h0])
    have HN := Lib.hid (no H.out)
    have he : (s.toList == (⟨#[]⟩ : ByteArray).toList) = true := by
      rw [beq_iff_eq, Lib.toList_data, Lib.toList_data]
      exact List.eq_nil_of_length_eq_zero (by rw [hlen, h0])
    have he2 : s.toList.isEmpty = true := by rw [Lib.toList_data, List.isEmpty_iff]; exact List.eq_nil_of_length_eq_zero (by rw [hlen, h0])
    clear no hlen h0
    go_enter Tryd.func35, Tryd.ntmps35
    go_wp2
    go_ret2
    exact ⟨HN.out, rfl⟩
  have hpos : 0 < s.size := by omega
  have hne : (s.toList == (⟨#[]⟩ : ByteArray).toList) = false := by
    rw [beq_eq_false_iff_ne, Lib.toList_data, Lib.toList_data]
    intro hx
    have := congrArg List.length hx
    rw [hlen] at this; simp only [List.length_nil] at this; omega
  have hne2 : s.toList.isEmpty = false := by
    rw [Lib.toList_data, Bool.eq_false_iff]; intro hx; rw [List.isEmpty_iff] at hx
    have := congrArg List.length hx
    rw [hlen] at this; simp only [List.length_nil] at this; omega
  clear h0
  by_cases h13 : 13 < s.size
  · have H := Lib.hid (show isNum s.data.toList = false by simp only [isNum, hlen, decide_eq_false (show ¬ s.size ≤ 13 by omega)]; simp)
    have HN := Lib.hid (no H.out)
    clear no hlen
    go_enter Tryd.func35, Tryd.ntmps35
    go_wp2
    go_ret2
    exact ⟨HN.out, rfl⟩
  have hd13 : decide (13 < (s.size : Int)) = false := decide_eq_false (by omega)
  have hhead : s.data.toList.head? = some s[0] := by
    rw [List.head?_eq_getElem?, List.getElem?_eq_getElem (by rw [hlen]; exact hpos)]; rfl
  by_cases hz : s[0].toNat = 48 ∧ 1 < s.size
  · have e48 : s[0] = 48 := UInt8.toNat_inj.1 hz.1
    have H := Lib.hid (show isNum s.data.toList = false by simp only [isNum, hhead, e48, hlen, decide_eq_true hz.2]; simp)
    have HN := Lib.hid (no H.out)
    have hb : ((s[0].toNat : Int) == 48) = true := by rw [beq_iff_eq]; omega
    obtain ⟨_, hz2⟩ := hz
    clear no hlen hhead e48
    go_enter Tryd.func35, Tryd.ntmps35
    go_wp2
    go_ret2
    exact ⟨HN.out, rfl⟩
  have hlead : (s.data.toList.head? == some 48 && decide (1 < s.data.toList.length)) = false := by
    rw [hhead, hlen]
    by_cases h1 : 1 < s.size
    · have : s[0] ≠ 48 := by intro hx; exact hz ⟨by rw [hx]; rfl, h1⟩
      simp [this]
    · simp [h1]
  have HL := Lib.hid hlead
  have HN := Lib.hid no
  clear hlead hhead no
  have HLEN := Lib.hid hlen
  clear hlen
  have loopd : ∀ (P : Prop), ((s[0].toNat : Int) == 48) = true → 1 < s.size → P := fun P h1 h2 => absurd ⟨by rw [beq_iff_eq] at h1; omega, h2⟩ hz
  have HLD := Lib.hid loopd
  clear loopd
  have fin : ∀ k : Nat, k = s.size → allDig (s.data.toList.take k) = true → valD (s.data.toList.take k) ≤ 1000000000000 → Ending.returned (.tuple #[.int .i64 ((valD (s.data.toList.take k) : Nat) : Int), .bool true]) = .returned (.tuple #[.int .i64 (numOf s.data.toList), .bool (isNum s.data.toList)]) := by
    intro k hk ha hv
    subst hk
    rw [take_size] at *
    have : isNum s.data.toList = true := by unfold isNum; rw [HL.out, ha, HLEN.out, decide_eq_true hv, decide_eq_true (show s.size ≤ 13 by omega), decide_eq_true (show 1 ≤ s.size by omega)]; rfl
    rw [numOf, this, if_pos rfl]
  have big : ∀ k : Nat, k = s.size → 1000000000000 < valD (s.data.toList.take k) → isNum s.data.toList = false := by
    intro k hk hv
    subst hk
    rw [take_size] at hv
    simp only [isNum, decide_eq_false (show ¬ valD s.data.toList ≤ 1000000000000 by omega)]; simp
  have FIN := Lib.hid fin
  have BIG := Lib.hid big
  clear fin big hz
  by_cases hb0 : ((s[0].toNat : Int) == 48) = true
  · have h1 : ¬ 1 < s.size := fun h => HLD.out False hb0 h
    have hd1 : decide (1 < (s.size : Int)) = false := decide_eq_false (by omega)
    go_enter Tryd.func35, Tryd.ntmps35
    go_wp2
    clear hb0
    go_loop [4, 5] (fun n i => ∃ k : Nat, k ≤ s.size ∧ i = .int .i64 k ∧ n = .int .i64 ((valD (s.data.toList.take k) : Nat) : Int) ∧ allDig (s.data.toList.take k) = true) (fun _ i => s.size - (intOf i).toNat)
    case atStart => exact ⟨0, Nat.zero_le _, rfl, rfl, rfl⟩
    case round =>
      obtain ⟨k, hk, rfl, hn, ha⟩ := hrel
      obtain ⟨V, hV⟩ : ∃ V, V = valD (s.data.toList.take k) := ⟨_, rfl⟩
      rw [← hV] at hn
      subst hn
      have hvb : V < 10000000000000 := by rw [hV]; exact valD_take_bd _ _ ha (by omega)
      have HV := Lib.hid hV
      have HA := Lib.hid ha
      clear hV ha
      by_cases hlt : k < s.size
      · by_cases hc1 : s[k].toNat < 48
        · have H := Lib.hid (show isNum s.data.toList = false by simp only [isNum, allDig_no s k hlt (by simp [isDig]; omega)]; simp)
          have hx1 : decide ((s[k].toNat : Int) < 48) = true := decide_eq_true (by omega)
          go_wp2
          go_ret2
          exact ⟨HN.out H.out, rfl⟩
        · have hx1 : decide ((s[k].toNat : Int) < 48) = false := decide_eq_false (by omega)
          by_cases hc2 : 57 < s[k].toNat
          · have H := Lib.hid (show isNum s.data.toList = false by simp only [isNum, allDig_no s k hlt (by simp [isDig]; omega)]; simp)
            have hx2 : decide (57 < (s[k].toNat : Int)) = true := decide_eq_true (by omega)
            go_wp2
            go_ret2
            exact ⟨HN.out H.out, rfl⟩
          · have hx2 : decide (57 < (s[k].toNat : Int)) = false := decide_eq_false (by omega)
            have HA2 := Lib.hid (show allDig (s.data.toList.take (k + 1)) = true by rw [allDig_take s k hlt, HA.out]; simp [isDig]; omega)
            have HV2 := Lib.hid (valD_take s k hlt)
            have hc1' : 48 ≤ (s[k].toNat : Int) := by omega
            have hc2' : (s[k].toNat : Int) ≤ 57 := by omega
            go_wp2
            go_round
            case rel => exact ⟨k + 1, by omega, by go_num, by rw [HV2.out, ← HV.out]; go_num, HA2.out⟩
            case measure => simp [intOf] <;> omega
      · have hks : k = s.size := by omega
        by_cases hbig : 1000000000000 < V
        · have H := Lib.hid (BIG.out k hks (by rw [← HV.out]; exact hbig))
          clear hks
          go_wp2
          go_ret2
          exact ⟨HN.out H.out, rfl⟩
        · have H := Lib.hid (FIN.out k hks HA.out (by rw [← HV.out]; omega))
          clear hks
          go_wp2
          go_ret2
          exact ⟨by rw [HV.out]; exact H.out, rfl⟩
  · rw [Bool.not_eq_true] at hb0
    go_enter Tryd.func35, Tryd.ntmps35
    go_wp2
    clear hb0
    go_loop [4, 5] (fun n i => ∃ k : Nat, k ≤ s.size ∧ i = .int .i64 k ∧ n = .int .i64 ((valD (s.data.toList.take k) : Nat) : Int) ∧ allDig (s.data.toList.take k) = true) (fun _ i => s.size - (intOf i).toNat)
    case atStart => exact ⟨0, Nat.zero_le _, rfl, rfl, rfl⟩
    case round =>
      obtain ⟨k, hk, rfl, hn, ha⟩ := hrel
      obtain ⟨V, hV⟩ : ∃ V, V = valD (s.data.toList.take k) := ⟨_, rfl⟩
      rw [← hV] at hn
      subst hn
      have hvb : V < 10000000000000 := by rw [hV]; exact valD_take_bd _ _ ha (by omega)
      have HV := Lib.hid hV
      have HA := Lib.hid ha
      clear hV ha
      by_cases hlt : k < s.size
      · by_cases hc1 : s[k].toNat < 48
        · have H := Lib.hid (show isNum s.data.toList = false by simp only [isNum, allDig_no s k hlt (by simp [isDig]; omega)]; simp)
          have hx1 : decide ((s[k].toNat : Int) < 48) = true := decide_eq_true (by omega)
          go_wp2
          go_ret2
          exact ⟨HN.out H.out, rfl⟩
        · have hx1 : decide ((s[k].toNat : Int) < 48) = false := decide_eq_false (by omega)
          by_cases hc2 : 57 < s[k].toNat
          · have H := Lib.hid (show isNum s.data.toList = false by simp only [isNum, allDig_no s k hlt (by simp [isDig]; omega)]; simp)
            have hx2 : decide (57 < (s[k].toNat : Int)) = true := decide_eq_true (by omega)
            go_wp2
            go_ret2
            exact ⟨HN.out H.out, rfl⟩
          · have hx2 : decide (57 < (s[k].toNat : Int)) = false := decide_eq_false (by omega)
            have HA2 := Lib.hid (show allDig (s.data.toList.take (k + 1)) = true by rw [allDig_take s k hlt, HA.out]; simp [isDig]; omega)
            have HV2 := Lib.hid (valD_take s k hlt)
            have hc1' : 48 ≤ (s[k].toNat : Int) := by omega
            have hc2' : (s[k].toNat : Int) ≤ 57 := by omega
            go_wp2
            go_round
            case rel => exact ⟨k + 1, by omega, by go_num, by rw [HV2.out, ← HV.out]; go_num, HA2.out⟩
            case measure => simp [intOf] <;> omega
      · have hks : k = s.size := by omega
        by_cases hbig : 1000000000000 < V
        · have H := Lib.hid (BIG.out k hks (by rw [← HV.out]; exact hbig))
          clear hks
          go_wp2
          go_ret2
          exact ⟨HN.out H.out, rfl⟩
        · have H := Lib.hid (FIN.out k hks HA.out (by rw [← HV.out]; omega))
          clear hks
          go_wp2
          go_ret2
          exact ⟨by rw [HV.out]; exact H.out, rfl⟩

theorem isNum_fmt (l : List UInt8) (ha : allDig l = true) (h1 : 1 ≤ l.length) (h2 : l.length ≤ 13) (hv : valD l ≤ 1000000000000) : isNum l = decide (fmtI (valD l : Nat) = l) := by
  have hf := fmt_val l (by simpa [allDig] using ha) (by rintro rfl; simp at h1)
  unfold isNum
  rw [ha, decide_eq_true h1, decide_eq_true h2, decide_eq_true hv]
  by_cases h : l.head? = some 48 ∧ 1 < l.length
  · rw [decide_eq_false (fun hx => (hf.1 hx) h), h.1, decide_eq_true h.2]; rfl
  · rw [decide_eq_true (hf.2 h)]
    have : (l.head? == some 48 && decide (1 < l.length)) = false := by
      rw [Bool.and_eq_false_iff]
      by_cases hh : l.head? = some 48
      · right; exact decide_eq_false (fun hx => h ⟨hh, hx⟩)
      · left; exact beq_eq_false_iff_ne.2 hh
    rw [this]; rfl
theorem fmt_str_eq (l : List UInt8) (s : ByteArray) (h : l = s.data.toList) : ((str l).toList == s.toList) = true := by
  rw [Lib.toList_data, Lib.toList_data, str_data, h]; simp
theorem fmt_str_ne (l : List UInt8) (s : ByteArray) (h : l ≠ s.data.toList) : ((str l).toList == s.toList) = false := by
  rw [Lib.toList_data, Lib.toList_data, str_data]; exact beq_eq_false_iff_ne.2 h

end Go.Proofs.YtkfmdkogifmfmaaDoor
