/- The walks of eqValueS and eqValue on equal data. Conditions: the slices read as the data. -/
import Derived.Test.YtkfmdkogifmfmaaDoorValTo
import Derived.Test.YtkfmdkogifmfmaaDoorDescEq
import Derived.WalkSpells
import Derived.WalkLawsBesides
import Derived.Deep.RegionHeld3
namespace Go.Proofs.YtkfmdkogifmfmaaDoor
set_option linter.unusedSimpArgs false
set_option linter.unusedVariables false
open Go.RowKit

/-- eqValue's contract. -/
def EqV (x : VM) : Prop := ∀ (y : VM), y.d = x.d → ∀ (B B' : Nat) (w : World), x.rd w B → y.rd w B' → B ≤ w.heap.size → B' ≤ w.heap.size → Calls Tryd.prog 19 #[vmV x, vmV y] w (True1 w)
theorem VM.same_n {x y : VM} (h : y.d = x.d) : y.n = x.n := by have := congrArg Val.n h; simpa using this
theorem VM.same_b {x y : VM} (h : y.d = x.d) : y.b = x.b := by have := congrArg Val.b h; simpa using this
theorem VM.same_items {x y : VM} (h : y.d = x.d) : y.items.map VM.d = x.items.map VM.d := by have := congrArg Val.items h; simpa using this

set_option maxHeartbeats 2000000 in
set_option maxRecDepth 100000 in
theorem eqValueS_of (v v' : Value) (l l' : List VM) (B B' : Nat) (w : World) (h : SlV w B v l) (h' : SlV w B' v' l') (hB : B ≤ w.heap.size) (hB' : B' ≤ w.heap.size) (hd : l'.map VM.d = l.map VM.d) (hv : ∀ x ∈ l, EqV x) :
    Calls Tryd.prog 39 #[v, v'] w (True1 w) := by
  have h2 := h.2
  have h2' := h'.2
  have hlen : l'.length = l.length := by have := congrArg List.length hd; simpa using this
  have hat : ∀ k (h1 : k < l.length) (h2 : k < l'.length), l'[k].d = l[k].d := fun k h1 h2 => by
    have e1 : (l'.map VM.d)[k]? = (l.map VM.d)[k]? := by rw [hd]
    rw [List.getElem?_map, List.getElem?_map, List.getElem?_eq_getElem h1, List.getElem?_eq_getElem h2] at e1
    simpa using e1
  obtain ⟨A, c, rfl, hc, hm, hcell⟩ := h.open_
  obtain ⟨A', c', rfl, hc', hm', hcell'⟩ := h'.open_
  unfold maxLen at hm hm'
  have HV := Lib.hid hv
  clear h h' hd hv
  have hb0 : ((l.length : Int) == (l'.length : Int)) = true := by rw [hlen]; simp
  have hb1 : ((l.length : Int) != (l'.length : Int)) = false := by rw [hlen]; simp
  have HL := Lib.hid hlen
  have hle1 : l.length ≤ l'.length := by omega
  have hle2 : l'.length ≤ l.length := by omega
  clear hlen
  go_enter Tryd.func39, Tryd.ntmps39
  go_wp2
  go_loopw [5] (fun i wr => ∃ k : Nat, k ≤ l.length ∧ i = .int .i64 k ∧ Below w.heap.size w wr) (fun i _ => l.length - (intOf i).toNat)
  case atStart => exact ⟨0, Nat.zero_le _, rfl, Below.refl _ _⟩
  case round =>
    obtain ⟨k, hk, rfl, hb⟩ := hrel
    by_cases hlt : k < l.length
    · have hlt' : k < l'.length := by omega
      obtain ⟨b, off, rfl, hbB, hc0, hc1, hc2⟩ := hcell k hlt
      obtain ⟨b', off', rfl, hbB', hc0', hc1', hc2'⟩ := hcell' k hlt'
      have hbm := hb.mono hB
      have hbm' := hb.mono hB'
      have hd0 : wr.cell? ⟨b, off + k * 3, none⟩ = some (.int .i64 l[k].n) := (hbm.cell (p := ⟨b, off + k * 3, none⟩) hbB).trans hc0
      have hd1 : wr.cell? ⟨b, off + k * 3 + 1, none⟩ = some l[k].vb := (hbm.cell (p := ⟨b, off + k * 3 + 1, none⟩) hbB).trans hc1
      have hd2 : wr.cell? ⟨b, off + k * 3 + 2, none⟩ = some l[k].vi := (hbm.cell (p := ⟨b, off + k * 3 + 2, none⟩) hbB).trans hc2
      have hd0' : wr.cell? ⟨b', off' + k * 3, none⟩ = some (.int .i64 l'[k].n) := (hbm'.cell (p := ⟨b', off' + k * 3, none⟩) hbB').trans hc0'
      have hd1' : wr.cell? ⟨b', off' + k * 3 + 1, none⟩ = some l'[k].vb := (hbm'.cell (p := ⟨b', off' + k * 3 + 1, none⟩) hbB').trans hc1'
      have hd2' : wr.cell? ⟨b', off' + k * 3 + 2, none⟩ = some l'[k].vi := (hbm'.cell (p := ⟨b', off' + k * 3 + 2, none⟩) hbB').trans hc2'
      have r1 := (h2 _ (List.getElem_mem hlt)).bel hbm
      have r2 := (h2' _ (List.getElem_mem hlt')).bel hbm'
      have hsz := hb.size
      have R1 := Lib.hid (And.intro r1 (And.intro r2 (And.intro (hat k hlt hlt') (HV.out l[k] (List.getElem_mem hlt)))))
      have HB := Lib.hid hb
      clear hcell hcell' hbm hbm' r1 r2 hb hat h2 h2' hc0 hc1 hc2 hc0' hc1' hc2'
      go_wp2_with fail
      go_region_held3 (fun w' => w'.cell? ⟨b, off + k * 3, none⟩ = some (.int .i64 l[k].n) ∧ w'.cell? ⟨b, off + k * 3 + 1, none⟩ = some l[k].vb ∧ w'.cell? ⟨b, off + k * 3 + 2, none⟩ = some l[k].vi ∧ w'.cell? ⟨b', off' + k * 3, none⟩ = some (.int .i64 l'[k].n) ∧ w'.cell? ⟨b', off' + k * 3 + 1, none⟩ = some l'[k].vb ∧ w'.cell? ⟨b', off' + k * 3 + 2, none⟩ = some l'[k].vi)
        (first | exact ⟨hd0, hd1, hd2, hd0', hd1', hd2'⟩ | exact ⟨cell_later bel2 hd0, cell_later bel2 hd1, cell_later bel2 hd2, cell_later bel2 hd0', cell_later bel2 hd1', cell_later bel2 hd2'⟩)
        (first | (go_at_call 19; refine (R1.out.2.2.2 l'[k] R1.out.2.2.1 B B' _ (R1.out.1.bel ((Below.refl _ _).drew)) (R1.out.2.1.bel ((Below.refl _ _).drew)) (by show B ≤ wr.heap.size; omega) (by show B' ≤ wr.heap.size; omega)).mono ?_; rintro e w2 ⟨rfl, bel2⟩))
      have HB2 := Lib.hid (below_step bel2 HB.out.drew)
      clear bel2 hd0 hd1 hd2 hd0' hd1' hd2'
      go_wp2
      go_roundw
      case rel => exact ⟨k + 1, by omega, by go_num, HB2.out⟩
      case measure => simp [intOf]; omega
    · clear hcell hcell' hat
      go_wp2
      go_ret
      exact ⟨rfl, hb⟩
set_option maxHeartbeats 2000000 in
set_option maxRecDepth 100000 in
theorem eqValue_same (x : VM) : EqV x := by
  induction x using VM.induct with
  | h nn b vb vi l ih =>
  intro y hy B B' w h h' hB hB'
  have hn := VM.same_n hy
  have hbb := VM.same_b hy
  have hii := VM.same_items hy
  obtain ⟨nn', b', vb', vi', l'⟩ := y
  simp only [VM.n_mk, VM.b_mk, VM.items_mk] at hn hbb hii
  subst hn hbb
  have q1 := h.bytes
  have q2 := h.its
  have q1' := h'.bytes
  have q2' := h'.its
  simp only [VM.vb_mk, VM.b_mk, VM.vi_mk, VM.items_mk] at q1 q2 q1' q2'
  have g1 : ∀ o o', Below w.heap.size w ((w.alloc o).alloc o') := fun o o' => ((Below.refl _ _).alloc (Nat.le_refl _) _).alloc (by simp) _
  have Z1 := Lib.hid (fun o o' => q1.below ((g1 o o').mono hB))
  have Z2 := Lib.hid (fun o o' => q1'.below ((g1 o o').mono hB'))
  have K1 := Lib.hid (fun o o' n => q2.below (below_drewN ((g1 o o').mono hB) n))
  have K2 := Lib.hid (fun o o' n => q2'.below (below_drewN ((g1 o o').mono hB') n))
  have IH := Lib.hid ih
  have HI := Lib.hid hii
  clear h h' q1 q2 q1' q2' ih hy hii
  show Calls Tryd.prog 19 #[.agg #[.int .i64 nn', vb, vi], .agg #[.int .i64 nn', vb', vi']] w _
  go_enter Tryd.func19, Tryd.ntmps19
  go_wp2_with fail
  refine (eqByteS_any _ _ b' b' _ _ _ (Z1.out _ _) (Z2.out _ _)).mono ?_
  rw [beq_self_eq_true]
  rintro e w2 ⟨rfl, n1, rfl⟩
  go_wp2_with fail
  refine (eqValueS_of vi vi' l l' B B' _ (K1.out _ _ _) (K2.out _ _ _) (by simp; omega) (by simp; omega) HI.out IH.out).mono ?_
  rintro e w2 ⟨rfl, hb9⟩
  have HB := Lib.hid (below_step hb9 (below_drewN (g1 _ _) _))
  clear hb9
  go_wp2_with fail
  go_ret
  exact ⟨rfl, HB.out⟩
end Go.Proofs.YtkfmdkogifmfmaaDoor
