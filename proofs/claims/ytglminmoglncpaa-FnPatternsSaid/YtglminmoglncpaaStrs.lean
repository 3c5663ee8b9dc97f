/- The walks of the laws' helpers on []string: szStringS, toStringS, eqStringS. Conditions: the slices read as lists of strings. -/
import Derived.Test.YtglminmoglncpaaRows
import Derived.Test.YtglminmoglncpaaMem
import Derived.Test.YtglminmoglncpaaByte
import Derived.WalkSpells
import Derived.WalkLawsBesides
import Derived.BigQuiet
import Derived.Deep.QuietTactic
namespace Go.Proofs.Ytglminmoglncpaa
open Go.RowKit

theorem Try.info_str : (Try.prog.info? 9).map (fun i => (i.zero, i.size, i.bytes)) = some (some (.string ⟨#[]⟩), 1, 16) := by kernel_rfl

def total : List ByteArray → Nat
  | [] => 0
  | s :: l => s.size + total l
theorem total_append (a b : List ByteArray) : total (a ++ b) = total a + total b := by
  induction a with
  | nil => simp [total]
  | cons s a ih => simp only [List.cons_append, total, ih]; omega
theorem total_next (l : List ByteArray) (k : Nat) (h : k < l.length) : total (l.take (k + 1)) = total (l.take k) + l[k].size := by
  rw [List.take_succ_eq_append_getElem h, total_append]; simp [total]
theorem total_take_le (l : List ByteArray) (k : Nat) : total (l.take k) ≤ total l := by
  conv => rhs; rw [← List.take_append_drop k l, total_append]
  omega
theorem size_le_total (l : List ByteArray) (s : ByteArray) (h : s ∈ l) : s.size ≤ total l := by
  induction l with
  | nil => simp at h
  | cons a l ih =>
    simp only [List.mem_cons] at h
    rcases h with rfl | h
    · simp [total]
    · have := ih h; simp only [total]; omega

/-- szStringS answers -1, or the number of strings and all their letters lie within the bound; what is left is told. -/
def SzS (l : List ByteArray) (n : Int) (w : World) (x : Ending) (w' : World) : Prop :=
  ∃ r : Int, x = .returned (.int .i64 r) ∧ w = w' ∧ (r = -1 ∨ (0 ≤ r ∧ r = n - l.length - total l))

theorem own_strs {w : World} {base : Nat} {v : Value} {l : List ByteArray} (h : w.ownsRow base 9 1 v l.length (l.map .string)) : SlS w w.heap.size v l := Sl.of_own h

theorem bytes_eq {a b : ByteArray} : (a.toList == b.toList) = true ↔ a = b := by
  rw [beq_iff_eq, Lib.toList_data, Lib.toList_data]
  constructor
  · intro h; apply ByteArray.ext; exact Array.toList_inj.1 h
  · rintro rfl; rfl
theorem bytes_ne {a b : ByteArray} (h : a ≠ b) : (a.toList == b.toList) = false := by
  rw [Bool.eq_false_iff]; intro hx; exact h (bytes_eq.1 hx)

set_option maxHeartbeats 400000 in
theorem eqStringS_any (v v' : Value) (l l' : List ByteArray) (B B' : Nat) (w : World) (h : SlS w B v l) (h' : SlS w B' v' l') :
    Calls Try.prog 10 #[v, v'] w (Quiet w (.bool (decide (l = l')))) := by
  obtain ⟨A, c, rfl, hc, hm, hcell⟩ := h.one
  obtain ⟨A', c', rfl, hc', hm', hcell'⟩ := h'.one
  unfold maxLen at hm hm'
  clear h h'
  by_cases hne : l.length = l'.length
  · have HE := Lib.hid hne
    have hb : ((l.length : Int) == (l'.length : Int)) = true := by rw [hne]; simp
    have hlen1 : l.length ≤ l'.length := by omega
    have hlen2 : l'.length ≤ l.length := by omega
    clear hne
    go_enter Try.func10, Try.ntmps10
    go_wp2
    go_loopw [5] (fun i wr => ∃ k n : Nat, k ≤ l.length ∧ i = .int .i64 k ∧ wr = w.drewN n ∧ l.take k = l'.take k) (fun i _ => l.length - (intOf i).toNat)
    case atStart => exact ⟨0, 0, Nat.zero_le _, rfl, rfl, rfl⟩
    case round =>
      obtain ⟨k, n, hk, rfl, rfl, ht⟩ := hrel
      have HT := Lib.hid ht
      clear ht
      by_cases hlt : k < l.length
      · obtain ⟨b, off, rfl, _, hc0⟩ := hcell k hlt
        obtain ⟨b', off', rfl, _, hc0'⟩ := hcell' k (by omega)
        have hlt' : k < l'.length := by omega
        clear hcell hcell'
        by_cases he : l[k] = l'[k]
        · have HX := Lib.hid (take_next hlt (by omega) HT.out he)
          have hbe : (l[k].toList == l'[k].toList) = true := bytes_eq.2 he
          clear he
          go_wp2
          go_quiet (fail)
          go_wp2
          go_roundw
          case rel => exact ⟨k + 1, _, by omega, by go_num, rfl, HX.out⟩
          case measure => simp [intOf]; omega
        · have hbe : (l[k].toList == l'[k].toList) = false := bytes_ne he
          have HX := Lib.hid (show decide (l = l') = false by
            apply decide_eq_false; rintro rfl; exact he rfl)
          clear he
          go_wp2
          go_quiet (fail)
          go_wp2
          go_ret
          exact ⟨ret_bool HX.out.symm, _, World.drewN_drewN _ _ _⟩
      · have HX := Lib.hid (show decide (l = l') = true by
          have h1 := HT.out
          have h2 := HE.out
          rw [List.take_of_length_le (by omega), List.take_of_length_le (by omega)] at h1
          exact decide_eq_true h1)
        clear hcell hcell'
        go_wp2
        go_ret
        exact ⟨ret_bool HX.out.symm, _, rfl⟩
  · have hb : ((l.length : Int) == (l'.length : Int)) = false := by rw [beq_eq_false_iff_ne]; omega
    have HX := Lib.hid (show decide (l = l') = false by apply decide_eq_false; rintro rfl; exact hne rfl)
    clear hne hcell hcell'
    go_enter Try.func10, Try.ntmps10
    go_wp2
    go_ret
    exact ⟨ret_bool HX.out.symm, 0, rfl⟩

/-! ### JoinPath -/
def slash : ByteArray := ⟨#[47]⟩
def joinP (l : List ByteArray) : ByteArray := l.foldl (fun s x => s ++ slash ++ x) ⟨#[]⟩
theorem joinP_next (l : List ByteArray) (k : Nat) (h : k < l.length) : joinP (l.take (k + 1)) = joinP (l.take k) ++ slash ++ l[k] := by
  rw [List.take_succ_eq_append_getElem h, joinP, List.foldl_append]; rfl
theorem joinP_size_aux (l : List ByteArray) : ∀ s : ByteArray, (l.foldl (fun s x => s ++ slash ++ x) s).size = s.size + l.length + total l := by
  induction l with
  | nil => intro s; simp [total]
  | cons x l ih =>
    intro s
    rw [List.foldl_cons, ih]
    simp only [ByteArray.size_append, List.length_cons, total]
    have : slash.size = 1 := rfl
    omega
theorem joinP_size (l : List ByteArray) : (joinP l).size = l.length + total l := by
  rw [joinP, joinP_size_aux]; simp; rfl

set_option maxHeartbeats 400000 in
theorem specJoinPath_any (v : Value) (l : List ByteArray) (B : Nat) (w : World) (h : SlS w B v l) (ht : l.length + total l ≤ 4194304) :
    Calls Try.prog 44 #[v] w fun e w' => e = .returned (.string (joinP l)) ∧ w = w' := by
  obtain ⟨A, c, rfl, hc, hm, hcell⟩ := h.one
  unfold maxLen at hm
  go_enter Try.func44, Try.ntmps44
  go_wp2
  go_loop [3, 4] (fun s i => ∃ (k : Nat) (S : ByteArray), k ≤ l.length ∧ i = .int .i64 k ∧ s = .string S ∧ S = joinP (l.take k)) (fun _ i => l.length - (intOf i).toNat)
  case atStart => exact ⟨0, _, Nat.zero_le _, rfl, rfl, rfl⟩
  case round =>
    obtain ⟨k, S, hk, rfl, rfl, hS⟩ := hrel
    have HS := Lib.hid hS
    by_cases hlt : k < l.length
    · obtain ⟨b, off, rfl, hbB, hc0⟩ := hcell k hlt
      have hsz : S.size ≤ 4194304 := by
        rw [hS, joinP_size, List.length_take]
        have := total_take_le l k
        omega
      have hx := size_le_total l l[k] (List.getElem_mem hlt)
      have hx2 : l[k].size ≤ 4194304 := by omega
      clear hcell hS hx
      go_wp2
      go_round
      case rel => exact ⟨k + 1, _, by omega, by go_num, rfl, by rw [joinP_next l k hlt, HS.out]; rfl⟩
      case measure => simp [intOf] <;> omega
    · have HK := Lib.hid (show k = l.length by omega)
      clear hcell hS
      go_wp2
      go_ret
      exact ⟨ret_str (by rw [HS.out, HK.out, List.take_length]), rfl⟩

set_option maxHeartbeats 400000 in
theorem implJoinPath_any (v : Value) (l : List ByteArray) (B : Nat) (w : World) (h : SlS w B v l) (ht : l.length + total l ≤ 4194304) :
    Calls Try.prog 21 #[v] w fun e w' => e = .returned (.string (joinP l)) ∧ w = w' := by
  obtain ⟨A, c, rfl, hc, hm, hcell⟩ := h.one
  unfold maxLen at hm
  go_enter Try.func21, Try.ntmps21
  go_wp2
  go_loop [3, 8] (fun s i => ∃ (k : Nat) (S : ByteArray), k ≤ l.length ∧ i = .int .i64 k ∧ s = .string S ∧ S = joinP (l.take k)) (fun _ i => l.length - (intOf i).toNat)
  case atStart => exact ⟨0, _, Nat.zero_le _, rfl, rfl, rfl⟩
  case round =>
    obtain ⟨k, S, hk, rfl, rfl, hS⟩ := hrel
    have HS := Lib.hid hS
    by_cases hlt : k < l.length
    · obtain ⟨b, off, rfl, hbB, hc0⟩ := hcell k hlt
      have hsz : S.size ≤ 4194304 := by
        rw [hS, joinP_size, List.length_take]
        have := total_take_le l k
        omega
      have hx := size_le_total l l[k] (List.getElem_mem hlt)
      have hx2 : l[k].size ≤ 4194304 := by omega
      clear hcell hS hx
      go_wp2
      go_round
      case rel => exact ⟨k + 1, _, by omega, by go_num, rfl, by rw [joinP_next l k hlt, HS.out, ByteArray.append_assoc]; rfl⟩
      case measure => simp [intOf] <;> omega
    · have HK := Lib.hid (show k = l.length by omega)
      clear hcell hS
      go_wp2
      go_ret
      exact ⟨ret_str (by rw [HS.out, HK.out, List.take_length]), rfl⟩
end Go.Proofs.Ytglminmoglncpaa
