/- The walks of the laws' helpers that measure a value: szValueS and szValue. Conditions: the value reads in memory; what is left is from 0 to 2^20. -/
import Derived.Test.YtkfmdkogifmfmaaDoorVal
import Derived.Test.YtkfmdkogifmfmaaDoorDescSz
import Derived.WalkSpells
import Derived.WalkLawsBesides
namespace Go.Proofs.YtkfmdkogifmfmaaDoor
set_option linter.unusedSimpArgs false
set_option linter.unusedVariables false
open Go.RowKit

/-- The answer of a size's count. -/
def SzV (s : Nat) (n : Int) (w : World) (e : Ending) (w' : World) : Prop := e = .returned (.int .i64 (leftOf n s)) ∧ Below w.heap.size w w'
theorem leftOf_neg {n : Int} {k : Nat} (h : n - k < 0) : leftOf n k = -1 := by unfold leftOf; rw [if_pos h]
theorem leftOf_pos {n : Int} {k : Nat} (h : 0 ≤ n - k) : leftOf n k = n - k := by unfold leftOf; rw [if_neg (by omega)]
theorem SzV.szL {s : Nat} {n : Int} {w w' : World} {e : Ending} (h : SzV s n w e w') (h1 : n ≤ 1048576) (h0 : 0 ≤ n) : SzL (s ≤ 1048576) n w e w' := by
  obtain ⟨h, hb⟩ := h
  refine ⟨_, h, hb, ?_⟩
  rcases leftOf_cases n s with e | ⟨p, e⟩
  · exact .inl e
  · exact .inr ⟨p, by omega, by omega⟩
theorem Val.sizes_take_le (l : List Val) (j : Nat) (hj : j ≤ l.length) : Val.sizes (l.take j) + (l.length - j) ≤ Val.sizes l := by
  have h : Val.sizes l = Val.sizes (l.take j) + Val.sizes (l.drop j) := by rw [← Val.sizes_append, List.take_append_drop]
  have h2 := Val.length_le (l.drop j)
  rw [List.length_drop] at h2
  omega
theorem Val.sizes_take_succ (l : List Val) (k : Nat) (hk : k < l.length) : Val.sizes (l.take (k + 1)) = Val.sizes (l.take k) + 1 + l[k].size := by
  rw [List.take_succ_eq_append_getElem hk, Val.sizes_append, Val.sizes_cons, Val.sizes_nil]; omega
theorem szValueS_of (v : Value) (l : List VM) (B : Nat) (n : Int) (w : World) (h : SlV w B v l) (hB : B ≤ w.heap.size) (h0 : 0 ≤ n) (h1 : n ≤ 1048576)
    (hv : ∀ x ∈ l, ∀ (B : Nat) (n : Int) (w : World), x.rd w B → B ≤ w.heap.size → 0 ≤ n → n ≤ 1048576 → Calls Tryd.prog 15 #[vmV x, .int .i64 n] w (SzV x.d.size n w)) :
    Calls Tryd.prog 32 #[v, .int .i64 n] w (SzV (Val.sizes (l.map VM.d)) n w) := by
  have h2 := h.2
  obtain ⟨A, c, rfl, hc, hm, hcell⟩ := h.open_
  unfold maxLen at hm
  clear h
  have hlen : (l.map VM.d).length = l.length := List.length_map ..
  have hll := Val.length_le (l.map VM.d)
  rw [hlen] at hll
  have HV := Lib.hid hv
  clear hv
  by_cases hbig : n - l.length < 0
  · have H := Lib.hid (show leftOf n (Val.sizes (l.map VM.d)) = -1 from leftOf_neg (by omega))
    clear hcell h2
    go_enter Tryd.func32, Tryd.ntmps32
    go_wp2
    go_ret
    exact ⟨ret_int H.out.symm, Below.refl _ _⟩
  · have HT := Lib.hid (And.intro (Val.sizes_take_le (l.map VM.d)) (Val.sizes_take_succ (l.map VM.d)))
    have HL := Lib.hid (And.intro hlen hll)
    clear hlen hll
    go_enter Tryd.func32, Tryd.ntmps32
    go_wp2
    go_loopw [1, 5] (fun q i wr => ∃ (k : Nat) (r : Int), k ≤ l.length ∧ i = .int .i64 k ∧ q = .int .i64 r ∧ 0 ≤ r ∧ r ≤ n ∧ Hid (r = n - l.length + k - Val.sizes ((l.map VM.d).take k)) ∧ Below w.heap.size w wr) (fun _ i _ => l.length - (intOf i).toNat)
    case atStart => exact ⟨0, _, Nat.zero_le _, rfl, rfl, by omega, by omega, Lib.hid (by rw [List.take_zero, Val.sizes_nil]; simp), Below.refl _ _⟩
    case round =>
      obtain ⟨k, r, hk, rfl, rfl, hr0, hr1, HR, hb⟩ := hrel
      by_cases hlt : k < l.length
      · obtain ⟨b, off, rfl, hbB, hc0, hc1, hc2⟩ := hcell k hlt
        have hbm := hb.mono hB
        have hd0 : wr.cell? ⟨b, off + k * 3, none⟩ = some (.int .i64 l[k].n) := (hbm.cell (p := ⟨b, off + k * 3, none⟩) hbB).trans hc0
        have hd1 : wr.cell? ⟨b, off + k * 3 + 1, none⟩ = some l[k].vb := (hbm.cell (p := ⟨b, off + k * 3 + 1, none⟩) hbB).trans hc1
        have hd2 : wr.cell? ⟨b, off + k * 3 + 2, none⟩ = some l[k].vi := (hbm.cell (p := ⟨b, off + k * 3 + 2, none⟩) hbB).trans hc2
        have r1 := (h2 _ (List.getElem_mem hlt)).bel hbm
        have hsz := hb.size
        clear hcell hbm h2 hc0 hc1 hc2
        go_wp2_with fail
        refine (HV.out l[k] (List.getElem_mem hlt) B r _ r1 (by omega) hr0 (by omega)).mono ?_
        rintro e w2 ⟨rfl, hb1⟩
        have H := Lib.hid (below_step hb1 hb)
        clear hd0 hd1 hd2 hb hb1 r1
        have hs1 := HT.out.2 k (by rw [HL.out.1]; exact hlt)
        rw [List.getElem_map] at hs1
        have hs2 := HT.out.1 (k + 1) (by rw [HL.out.1]; omega)
        rw [HL.out.1] at hs2
        have hR := HR.out
        rcases leftOf_cases r l[k].d.size with e1 | ⟨p1, e1⟩
        · have e2 : r - l[k].d.size < 0 := by unfold leftOf at e1; split at e1 <;> omega
          have HF := Lib.hid (show leftOf n (Val.sizes (l.map VM.d)) = -1 from leftOf_neg (by omega))
          rw [e1]
          clear hs1 hs2 hR e1 e2 HR
          go_wp2
          go_ret
          exact ⟨ret_int HF.out.symm, H.out⟩
        · obtain ⟨x1, hx1⟩ : ∃ x, x = leftOf r l[k].d.size := ⟨_, rfl⟩
          rw [← hx1] at e1 p1 ⊢
          have HN := Lib.hid (show x1 = n - l.length + ((k + 1 : Nat) : Int) - Val.sizes ((l.map VM.d).take (k + 1)) by omega)
          have hle : x1 ≤ n := by omega
          clear hs1 hs2 hR e1 HR hx1
          go_wp2
          go_roundw
          case rel => exact ⟨k + 1, x1, by omega, by go_num, rfl, by omega, by omega, HN, H.out⟩
          case measure => simp [intOf]; omega
      · have hkl : k = l.length := by omega
        have hF : leftOf n (Val.sizes (l.map VM.d)) = r := by
          have hR := HR.out
          rw [hkl, ← HL.out.1, List.take_length, HL.out.1] at hR
          rw [leftOf_pos (by omega)]
          omega
        have HF := Lib.hid hF
        clear hcell h2 hF hkl HR
        go_wp2
        go_ret
        exact ⟨ret_int HF.out.symm, hb⟩
set_option maxHeartbeats 1000000 in
theorem szValue_any (x : VM) : ∀ (B : Nat) (n : Int) (w : World), x.rd w B → B ≤ w.heap.size → 0 ≤ n → n ≤ 1048576 → Calls Tryd.prog 15 #[vmV x, .int .i64 n] w (SzV x.d.size n w) := by
  induction x using VM.induct with
  | h nn b vb vi l ih =>
  intro B n w h hB h0 h1
  have hb' := h.bytes
  have hi' := h.its
  simp only [VM.vb_mk, VM.b_mk, VM.vi_mk, VM.items_mk] at hb' hi'
  have IH := Lib.hid ih
  clear ih h
  have hB1 : Below w.heap.size w (w.alloc (.cells #[.int .i64 nn, vb, vi] 43)) := (Below.refl _ _).alloc (Nat.le_refl _) _
  have hb2 : SlB _ B vb b := hb'.below (hB1.mono hB)
  have hi2 := hi'.below (hB1.mono hB)
  rw [VM.d_mk, Val.size_mk]
  obtain ⟨s, hs⟩ : ∃ s, s = Val.sizes (l.map VM.d) := ⟨_, rfl⟩
  rw [← hs]
  have HS := Lib.hid hs
  clear hs
  show Calls Tryd.prog 15 #[.agg #[.int .i64 nn, vb, vi], .int .i64 n] w _
  go_enter Tryd.func15, Tryd.ntmps15
  go_wp2_with fail
  refine (szByteS_any _ b _ _ _ hb2 h0 h1).mono ?_
  rintro e w9 ⟨rfl, rfl⟩
  rcases leftOf_cases n b.length with e1 | ⟨p1, e1⟩
  · have e2 : n - b.length < 0 := by unfold leftOf at e1; split at e1 <;> omega
    have HF := Lib.hid (show leftOf n (b.length + s) = -1 from leftOf_neg (by omega))
    rw [e1]
    clear hb' hi' hb2 hi2 e1 e2
    go_wp2
    go_ret
    exact ⟨ret_int HF.out.symm, hB1⟩
  obtain ⟨x1, hx1⟩ : ∃ x, x = leftOf n b.length := ⟨_, rfl⟩
  rw [← hx1] at e1 p1 ⊢
  have hle : x1 ≤ n := by omega
  have E1 := Lib.hid e1
  clear e1 hx1 hb' hi' hb2
  go_wp2_with fail
  refine (szValueS_of vi l B x1 _ hi2 (by simp; omega) p1 (by omega) IH.out).mono ?_
  rw [← HS.out]
  rintro e w9 ⟨rfl, hb9⟩
  have HB := Lib.hid (below_step hb9 hB1)
  clear hi2 hB1 hb9
  rcases leftOf_cases x1 s with e2 | ⟨p2, e2⟩
  · have e3 : x1 - s < 0 := by unfold leftOf at e2; split at e2 <;> omega
    have hE := E1.out
    have HF := Lib.hid (show leftOf n (b.length + s) = -1 from leftOf_neg (by omega))
    rw [e2]
    clear e2 e3 hE
    go_wp2
    go_ret
    exact ⟨ret_int HF.out.symm, HB.out⟩
  · obtain ⟨x2, hx2⟩ : ∃ x, x = leftOf x1 s := ⟨_, rfl⟩
    rw [← hx2] at e2 p2 ⊢
    have hE := E1.out
    have HF := Lib.hid (show leftOf n (b.length + s) = x2 by rw [leftOf_pos (by omega)]; omega)
    clear e2 hE hx2
    go_wp2
    go_ret
    exact ⟨ret_int HF.out.symm, HB.out⟩
end Go.Proofs.YtkfmdkogifmfmaaDoor
