/- The walk of spec.CommonEntries. Conditions: the slices read as lists of entries. -/
import Derived.Test.YtjbildcomjdpjaaEqIdx
import Derived.WalkSpells
import Derived.WalkLawsBesides
import Derived.BigQuiet
import Derived.Deep.QuietTactic
namespace Go.Proofs.Ytjbildcomjdpjaa
open Go.RowKit
def hasE (b : List Ent) (e : Ent) : Bool := b.any fun x => entB x e
def comN (a b : List Ent) : Nat := (a.filter (hasE b)).length
theorem hasE_next (b : List Ent) (e : Ent) (k : Nat) (h : k < b.length) : hasE (b.take (k + 1)) e = (hasE (b.take k) e || entB b[k] e) := by
  rw [List.take_succ_eq_append_getElem h]; simp only [hasE, List.any_append, List.any_cons, List.any_nil, Bool.or_false]
theorem comN_next (a b : List Ent) (k : Nat) (h : k < a.length) : comN (a.take (k + 1)) b = comN (a.take k) b + (if hasE b a[k] then 1 else 0) := by
  rw [List.take_succ_eq_append_getElem h, comN, List.filter_append, List.length_append, comN]
  cases hx : hasE b a[k] <;> simp [hx]
theorem comN_le (a b : List Ent) (k : Nat) : comN (a.take k) b ≤ k := by
  unfold comN
  have := List.length_filter_le (hasE b) (a.take k)
  have := List.length_take_le k a
  omega
set_option maxHeartbeats 1000000 in
set_option maxRecDepth 100000 in
theorem specCommon_any (v v' : Value) (a b : List Ent) (B B' : Nat) (w : World) (h : SlE w B v a) (h' : SlE w B' v' b) (ha : a.length ≤ 2097152) (hb : b.length ≤ 2097152) :
    Calls Try.prog 24 #[v, v'] w (Quiet w (.int .i64 (comN a b : Nat))) := by
  obtain ⟨A, c, rfl, hc, hm, hcell⟩ := h.open_
  obtain ⟨A', c', rfl, hc', hm', hcell'⟩ := h'.open_
  unfold maxLen at hm hm'
  clear h h'
  go_enter Try.func24, Try.ntmps24
  go_wp2
  go_loopw [5, 6, 7, 8] (fun q i _ _ wr => ∃ k n : Nat, k ≤ a.length ∧ i = .int .i64 k ∧ q = .int .i64 (comN (a.take k) b : Nat) ∧ wr = w.drewN n) (fun _ i _ _ _ => a.length - (intOf i).toNat)
  case atStart => exact ⟨0, 0, Nat.zero_le _, rfl, rfl, rfl⟩
  case round =>
    obtain ⟨k, n, hk, rfl, rfl, rfl⟩ := hrel
    have hle := comN_le a b k
    by_cases hlt : k < a.length
    · obtain ⟨bk, off, rfl, _, hc0, hc1, hc2, hc3⟩ := hcell k hlt
      have HN := Lib.hid (comN_next a b k hlt)
      go_wp2
      go_loopw [7, 8] (fun f i wr => ∃ j m : Nat, j ≤ b.length ∧ i = .int .i64 j ∧ f = .bool (hasE (b.take j) a[k]) ∧ wr = w.drewN m) (fun _ i _ => b.length - (intOf i).toNat)
      case atStart => exact ⟨0, n, Nat.zero_le _, rfl, rfl, rfl⟩
      case round =>
        obtain ⟨j, m, hj, rfl, rfl, rfl⟩ := hrel
        by_cases hlt2 : j < b.length
        · obtain ⟨bk', off', rfl, _, hd0, hd1, hd2, hd3⟩ := hcell' j hlt2
          clear hcell hcell'
          have hgd := guard_ent
          have hnx := hasE_next b a[k] j hlt2
          have heq : ∀ W : World, (binOp .eql 54 (.agg #[.string b[j].path, .int .i64 b[j].rule, .int .i64 b[j].start, .int .i64 b[j].stop]) (.agg #[.string a[k].path, .int .i64 a[k].rule, .int .i64 a[k].start, .int .i64 a[k].stop])).run Try.prog W = .ok (.bool (entB b[j] a[k])) W := fun W => eql_ent b[j] a[k] W
          cases hf : hasE (b.take j) a[k]
          · rw [hf, Bool.false_or] at hnx
            have HX := Lib.hid hnx
            clear hnx
            go_wp2
            go_quiet (fail)
            go_wp2
            go_roundw
            case rel => exact ⟨j + 1, _, by omega, by go_num, by rw [HX.out], rfl⟩
            case measure => simp [intOf]; omega
          · rw [hf, Bool.true_or] at hnx
            have HX := Lib.hid hnx
            clear hnx
            go_wp2
            go_quiet (fail)
            go_wp2
            go_roundw
            case rel => exact ⟨j + 1, _, by omega, by go_num, by rw [HX.out], rfl⟩
            case measure => simp [intOf]; omega
        · obtain hjl : j = b.length := by omega
          have HF := Lib.hid (show hasE (b.take j) a[k] = hasE b a[k] by rw [List.take_of_length_le (by omega)])
          clear hcell hcell'
          cases hf : hasE (b.take j) a[k]
          · have HY := Lib.hid (show comN (a.take (k + 1)) b = comN (a.take k) b by rw [HN.out, ← HF.out, hf]; rfl)
            go_wp2
            go_roundw
            case rel => exact ⟨k + 1, m, by omega, by go_num, by rw [HY.out], rfl⟩
            case measure => simp [intOf]; omega
          · have HY := Lib.hid (show comN (a.take (k + 1)) b = comN (a.take k) b + 1 by rw [HN.out, ← HF.out, hf]; rfl)
            go_wp2
            go_roundw
            case rel => exact ⟨k + 1, m, by omega, by go_num, by rw [HY.out]; go_num, rfl⟩
            case measure => simp [intOf]; omega
    · have HX := Lib.hid (show a.take k = a from List.take_of_length_le (by omega))
      clear hcell hcell'
      go_wp2
      go_ret
      exact ⟨ret_int (by rw [HX.out]), n, rfl⟩
end Go.Proofs.Ytjbildcomjdpjaa
