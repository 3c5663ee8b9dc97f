/- stepsOf and the function it hands back: an iterator over the parts of a path. Condition: the text has at most 2^21 bytes. -/
import Derived.Test.YtglminmoglncpaaRfKp
import Derived.Shelf.Abstract
import Derived.Shelf.RegionOpen
import Derived.WalkKit
import Derived.OwnWalkIn
import Derived.TacticsInMore
import Derived.LoopNIn
import Derived.LoopIn
namespace Go.Proofs.Ytglminmoglncpaa
open Go.RowKit Go.Shelf
attribute [local go_sem] Oper.semAt_some
theorem own_tail {W : World} {lo : Nat} {v : Value} {f : ByteArray} {t : List ByteArray} (h : W.ownsRow lo 9 1 v (t.length + 1) ((f :: t).map .string)) :
    ∃ p c o, v = .slice (some ⟨p, 0, none⟩) (t.length + 1) c ∧ lo ≤ p ∧ (∃ row m, W.heap[p]? = some (.cells row 9 m)) ∧ t.length + 1 ≤ c ∧ c ≤ maxLen ∧
      cutA (some ⟨p, 0, none⟩) c 1 1 = some ⟨p, o, none⟩ ∧ ∀ k (hk : k < t.length), W.cell? ⟨p, o + k, none⟩ = some (.string t[k]) := by
  obtain ⟨A, c', e, hc', hm', hcell⟩ := (own_strs (l := f :: t) h).one
  rcases h.2 with ⟨rfl, h0⟩ | ⟨g, cap, cur, rfl, hb, hg, hc, hm, hs, ht⟩
  · omega
  · cases e
    have hcl : ∀ k (hk : k < t.length + 1), W.cell? ⟨g, 0 + k, none⟩ = some (.string ((f :: t)[k]'(by simpa using hk))) := by
      intro k hk
      obtain ⟨b', off', e', _, h'⟩ := hcell k (by simpa using hk)
      cases e'
      exact h'
    refine ⟨g, c', if c' = 1 then 0 else 1, rfl, hb, ⟨_, _, hg⟩, by simpa using hc', hm', ?_, fun k hk => ?_⟩
    · unfold cutA
      split
      · rfl
      · rfl
    · have hc1 : ¬ c' = 1 := by simp at hc'; omega
      rw [if_neg hc1]
      have := hcl (k + 1) (by omega)
      rw [show 0 + (k + 1) = 1 + k by omega] at this
      exact this
/-- A text that the loop's body may be handed. -/
abbrev SmT := { x : ByteArray // x.size ≤ 2097152 }
def smT (l : List ByteArray) (h : ∀ p ∈ l, p.size ≤ 2097152) : List SmT := l.attach.map fun p => ⟨p.1, h p.1 p.2⟩
theorem smT_val (l : List ByteArray) (h : ∀ p ∈ l, p.size ≤ 2097152) : (smT l h).map (·.1) = l := by
  simp [smT]
set_option maxRecDepth 100000 in
set_option maxHeartbeats 2000000 in
theorem stepsOf1_in (n : Nat) (hn : 1 ≤ n) (l Bp b : Nat) (s f : ByteArray) (t : List SmT) (hft : splitT s 47 = f :: t.map (·.1)) (hs : s.size ≤ 2097152) (J Jx : List SmT → World → Prop) (W : World) (hJ : AbidesFrom W.heap.size J)
    (hY : ∀ pre x W1, J pre W1 → pre.length < t.length → YieldAt Fence.wide (n - 1) Try.prog l #[.string x.1] W1 fun e W' =>
      (e = .returned (.bool true) ∧ J (pre ++ [x]) W' ∧ KpB b W1 W') ∨ (e = .returned (.bool false) ∧ Jx (pre ++ [x]) W'))
    (hBp : W.cell? ⟨Bp, 0, none⟩ = some (.string s)) (hb : b < W.heap.size) (hfree : ∀ v, W.cell? ⟨b, 0, none⟩ = some v → ∀ g, v.ownBlock = some g → g < W.heap.size) (h0 : J [] W) :
    CallsIn Fence.wide n Try.prog 58 #[.func (.yield l) #[] #[], .pointer (some ⟨Bp, 0, none⟩)] W fun e W' => (∃ v, e = .returned v) ∧ ((∃ ys, ys = t ∧ J ys W') ∨ (∃ pre, pre <+: t ∧ Jx pre W')) := by
  have hC : ∀ w' : World, Calls Try.prog 59 #[.string s, .int .u8 47] w' (Fresh w' 9 1 ((t.map (·.1)).length + 1) ((f :: t.map (·.1)).map .string)) := fun w' => by
    have := implSplitText_any s 47 w' hs
    rw [hft] at this
    exact this
  have hlen := (splitT_length s 47).1
  rw [hft, List.length_cons, List.length_map] at hlen
  have HC := Lib.hid hC
  have HY := Lib.hid hY
  have HF := Lib.hid hfree
  clear hC hY hfree hft
  refine callsIn_of_wp Try.func58 rfl trivial ?_ rfl
  simp only [Try.ntmps58, List.size_toArray, List.length_cons, List.length_nil, Nat.reduceAdd, Nat.reduceSub, Array.replicate_succ, Array.replicate_zero, List.push_toArray, List.append_toArray, List.nil_append, List.cons_append]
  gi_wp2_with fail
  refine ⟨trivial, (callsIn_wide.2 (HC.out W)).mono ?_⟩
  rintro e W1 ⟨v, rfl, hown, hb1⟩
  obtain ⟨p, c, o, rfl, hpW, ⟨row, m, hp⟩, hc, hm, hcut, hcell⟩ := own_tail hown
  rw [List.length_map] at hc
  have hcell : ∀ k (hk : k < t.length), W1.cell? ⟨p, o + k, none⟩ = some (.string t[k].1) := fun k hk => by
    rw [hcell k (by simpa using hk), List.getElem_map]
  rw [List.length_map]
  have hcr := run_cutL (P := Try.prog) Try.underlying22 Try.sizeOf9 (some ⟨p, 0, none⟩) (t.length + 1) c 1 1 rfl (by omega)
  rw [hcut] at hcr
  have hJ1 : J [] W1 := hJ _ _ _ none h0 (grownBy_below hb1) (fun r e => by cases e)
  have hfr : FreeB b p W1 := by
    intro u hu hug
    have := HF.out u (by rw [← hu]; exact (cell_of_heap (hb1.block b hb)).symm) p hug
    omega
  have hpb : p ≠ b := by omega
  have HCe := Lib.hid hcell
  unfold maxLen at hm
  clear hcell hown hcut h0 HF
  gi_wp2
  gi_loopw [9] (fun i wr => ∃ k : Nat, k ≤ t.length ∧ i = .int .i64 k ∧ J (t.take k) wr ∧ wr.heap[p]? = W1.heap[p]? ∧ FreeB b p wr) (fun i _ => t.length - (intOf i).toNat)
  case atStart => exact ⟨0, Nat.zero_le _, rfl, hJ1, rfl, hfr⟩
  case round =>
    obtain ⟨k, hk, rfl, hJs, hpk, hfk⟩ := hrel
    by_cases hlt : k < t.length
    · have hcx := (cell_of_heap hpk).trans (HCe.out k hlt)
      obtain ⟨fn, tmps, assign, body, hy, hR⟩ := HY.out (t.take k) t[k] wr hJs (by rw [List.length_take]; omega)
      have hsucc : t.take k ++ [t[k]] = t.take (k + 1) := (List.take_succ_eq_append_getElem hlt).symm
      rw [hsucc] at hR
      clear hsucc
      have HP := Lib.hid hpk
      have HFk := Lib.hid hfk
      clear hpk hfk
      gi_wp2
      refine hR.mono ?_
      rintro e W3 (⟨rfl, hJ3, hk3⟩ | ⟨rfl, hJx3⟩)
      · obtain ⟨e3, f3⟩ := hk3.2 p row 9 m hpb (HP.out.trans hp) HFk.out
        have H3 := Lib.hid (And.intro (e3.trans HP.out) f3)
        clear e3 f3 hk3
        gi_wp2
        go_roundw
        case rel => exact ⟨k + 1, by omega, by simp, hJ3, H3.out.1, H3.out.2⟩
        case measure => simp [intOf]; omega
      · gi_wp2
        refine bodyPost_ret (results_none rfl _ _ _) rfl ?_
        exact ⟨⟨_, rfl⟩, .inr ⟨_, List.take_prefix _ _, hJx3⟩⟩
    · obtain rfl : k = t.length := by omega
      rw [List.take_length] at hJs
      clear hpk
      gi_wp2
      go_end0
      exact ⟨⟨_, rfl⟩, .inl ⟨_, rfl, hJs⟩⟩
set_option maxHeartbeats 1000000 in
/-- stepsOf(path): the path is boxed; the function value captures the box. -/
theorem stepsOf_in (n : Nat) (s : ByteArray) (w : World) :
    CallsIn Fence.wide n Try.prog 49 #[.string s] w fun e w' => e = .returned (.func (.func 58) #[] #[.pointer (some ⟨w.heap.size, 0, none⟩)]) ∧ w' = w.alloc (.cells #[.string s] 9) := by
  have hmf : ∀ (fn : Fn) (first cap : Array Value) (w : World), (Instr.makeFunc fn first cap).run Try.prog w = .ok (.func fn first cap) w := fun _ _ _ _ => rfl
  refine callsIn_of_wp Try.func49 rfl trivial ?_ rfl
  simp only [Try.ntmps49, List.size_toArray, List.length_cons, List.length_nil, Nat.reduceAdd, Nat.reduceSub, Array.replicate_succ, Array.replicate_zero, List.push_toArray, List.append_toArray, List.nil_append, List.cons_append]
  gi_wp2
  go_ret
  exact ⟨rfl, rfl⟩
/-- The iterator's contract. -/
theorem stepsOf_stops (n : Nat) (hn : 1 ≤ n) (Bp b : Nat) (s f : ByteArray) (t : List SmT) (hft : splitT s 47 = f :: t.map (·.1)) (hs : s.size ≤ 2097152) (w : World)
    (hBp : Bp < w.heap.size) (hc : w.cell? ⟨Bp, 0, none⟩ = some (.string s)) (hb : b < w.heap.size) (hfree : ∀ v, w.cell? ⟨b, 0, none⟩ = some v → ∀ g, v.ownBlock = some g → g < w.heap.size) :
    SeqStopsK Fence.wide n Try.prog 58 #[.pointer (some ⟨Bp, 0, none⟩)] (fun x : SmT => #[Value.string x.1]) (KpB b) (fun ys => ys = t) (fun pre => pre <+: t) t.length w := fun l J Jx W hW hJ _ hY h0 =>
  stepsOf1_in n hn l Bp b s f t hft hs J Jx W hJ hY ((hW.cell (p := ⟨Bp, 0, none⟩) hBp).trans hc) (by have := hW.size; omega)
    (fun v hv g hg => by
      have := hfree v (by rw [← hv]; exact (cell_of_heap (hW.block b hb)).symm) g hg
      have := hW.size
      omega) h0
end Go.Proofs.Ytglminmoglncpaa
