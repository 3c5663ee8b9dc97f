/- The walks of toValueS and toValue: a value copied into memory of its own. Conditions: the parts are at most 2^20 in all. -/
import Derived.Test.YtkfmdkogifmfmaaDoorValOwn
import Derived.Test.YtkfmdkogifmfmaaDoorValSz
import Derived.WalkSpells
import Derived.WalkLawsBesides
namespace Go.Proofs.YtkfmdkogifmfmaaDoor
set_option linter.unusedSimpArgs false
set_option linter.unusedVariables false
open Go.RowKit

/-- Items that a call made: a row and the rows of its items. -/
def OwVL (X : List Val) (lo hi : Nat) (w : World) (v : Value) : Prop :=
  ∃ (l : List VM) (m : Nat), l.map VM.d = X ∧ Row lo m 48 3 l.length (l.flatMap vmCells) w v ∧ lo ≤ m ∧ m ≤ hi ∧ OwVs l m hi w
theorem OwVL.keep {X : List Val} {lo hi lo' hi' : Nat} {w w' : World} {v : Value} (h : OwVL X lo hi w v) (ho : Out lo' hi' w w') (hd : hi ≤ lo' ∨ hi' ≤ lo) : OwVL X lo hi w' v := by
  obtain ⟨l, m, h1, h2, h3, h4, h5⟩ := h
  exact ⟨l, m, h1, h2.keep ho (by omega), h3, h4, h5.keep ho (by omega)⟩
theorem OwVL.wide {X : List Val} {lo hi lo' hi' : Nat} {w : World} {v : Value} (h : OwVL X lo hi w v) (h1 : lo' ≤ lo) (h2 : hi ≤ hi') : OwVL X lo' hi' w v := by
  obtain ⟨l, m, a, b, c, d, e⟩ := h
  exact ⟨l, m, a, Row.wide b h1 (Nat.le_refl _), by omega, by omega, e.wide (Nat.le_refl _) h2⟩
theorem OwVL.sl {X : List Val} {lo hi : Nat} {w : World} {v : Value} (h : OwVL X lo hi w v) : ∃ l : List VM, l.map VM.d = X ∧ SlV w w.heap.size v l := by
  obtain ⟨l, m, h1, h2, h3, h4, h5⟩ := h
  exact ⟨l, h1, h2.sl, fun x hx => (h5.own x hx).rd⟩
theorem OwVL.slice {X : List Val} {lo hi : Nat} {w : World} {v : Value} (h : OwVL X lo hi w v) : ∃ A c, v = .slice A X.length c := by
  obtain ⟨l, m, h1, h2, h3, h4, h5⟩ := h
  obtain ⟨A, c, e⟩ := row_slice h2
  exact ⟨A, c, by rw [e, ← h1, List.length_map]⟩
/-- A value out of a row of bytes and a row of items. -/
theorem OwV.fin {n : Int} {b : List UInt8} {X : List Val} {vb vi : Value} {lo l1 m1 m2 hi : Nat} {w : World} (h1 : OwB b l1 m1 w vb) (h2 : OwVL X m1 m2 w vi) (h3 : lo ≤ l1) (h4 : m2 ≤ hi) (h5 : l1 ≤ m1) :
    OwV (.mk n b X) lo hi w (.agg #[.int .i64 n, vb, vi]) := by
  obtain ⟨l, m, a, c, d, e, f⟩ := h2
  exact ⟨.mk n b vb vi l, by rw [VM.d_mk, a], rfl, OwV1.of (Row.wide h1 h3 (Nat.le_refl _)) c f (by omega) d e h4⟩
theorem val_lt_succ (h : Nat) {n c : Nat} (o : Nat) : ∀ k, (Value.slice (some ⟨h, o, none⟩) n c).ownBlock = some k → k < h + 1 := by
  intro k hk
  have : h = k := by simpa [Value.ownBlock] using hk
  omega
theorem Tryd.info_value : (Tryd.prog.info? 48).map (fun i => (i.zero, i.size, i.bytes)) = some (some (.agg #[.int .i64 0, .slice none 0 0, .slice none 0 0]), 3, 56) := by kernel_rfl
/-- toValue's contract. -/
def ToV (x : VM) : Prop := ∀ (B : Nat) (w : World), x.rd w B → B ≤ w.heap.size → x.d.size ≤ 1048576 → Calls Tryd.prog 17 #[vmV x] w (Made (OwV x.d) w)

set_option maxHeartbeats 2000000 in
set_option maxRecDepth 100000 in
theorem toValueS_of (v : Value) (l : List VM) (B : Nat) (w : World) (h : SlV w B v l) (hB : B ≤ w.heap.size) (hl : l.length ≤ 1048576) (hs : ∀ x ∈ l, x.d.size ≤ 1048576) (hv : ∀ x ∈ l, ToV x) :
    Calls Tryd.prog 34 #[v] w (Made (OwVL (l.map VM.d)) w) := by
  obtain ⟨i0, hi, hz0, hz1, hz2⟩ := info_parts Tryd.info_value
  have h2 := h.2
  obtain ⟨A, c, rfl, hc, hm, hcell⟩ := h.open_
  unfold maxLen at hm
  have hby : i0.bytes * l.length ≤ 281474976710656 := by rw [hz2]; omega
  have HV := Lib.hid hv
  have HS := Lib.hid hs
  clear h hv hs
  go_enter Tryd.func34, Tryd.ntmps34
  go_wp2_with (at_make; refine wpList_make_full _ rfl _ _ 46 rfl w.heap.size 48 i0 (.agg #[.int .i64 0, .slice none 0 0, .slice none 0 0]) 3 Tryd.underlying46 hi hz0 hz1 _ _ _ _ l.length rfl rfl rfl rfl hby (by unfold maxLen; omega) (Nat.le_refl _) ?_; intro w1 hown hg)
  have hbel : Below w.heap.size w w1 := below_grown hg (Nat.le_refl _) (by intro k hk; cases hk)
  obtain ⟨xs, hxs⟩ : ∃ xs, xs = (madeCells (Value.cells (.agg #[.int .i64 0, .slice none 0 0, .slice none 0 0])) (l.length * 3)).toList := ⟨_, rfl⟩
  rw [← hxs] at hown
  have hlt1 : w.heap.size + 1 ≤ w1.heap.size := (hown.lt w.heap.size rfl).2
  clear hg hxs
  go_loopw [4] (fun i wr => ∃ k : Nat, k ≤ l.length ∧ i = .int .i64 k ∧ w.heap.size + 1 ≤ wr.heap.size ∧ (∃ (D : List VM) (ys : List Value), D.map VM.d = (l.take k).map VM.d ∧ wr.ownsRow w.heap.size 48 3 (.slice (some ⟨w.heap.size, 0, none⟩) l.length l.length) l.length (D.flatMap vmCells ++ ys) ∧ OwVs D (w.heap.size + 1) wr.heap.size wr) ∧ Below w.heap.size w wr) (fun i _ => l.length - (intOf i).toNat)
  case atStart => exact ⟨0, Nat.zero_le _, rfl, hlt1, ⟨[], xs, rfl, hown, OwVs.nil _ _ _⟩, hbel⟩
  case round =>
    clear hown hbel hlt1
    obtain ⟨k, hk, rfl, hwr, ⟨D, ys, hD, hownr, hrs⟩, hb⟩ := hrel
    have hDl : D.length = k := by have := congrArg List.length hD; simp at this; omega
    by_cases hlt : k < l.length
    · obtain ⟨b, off, rfl, hbB, hc0, hc1, hc2⟩ := hcell k hlt
      have hbm := hb.mono hB
      have hd0 : wr.cell? ⟨b, off + k * 3, none⟩ = some (.int .i64 l[k].n) := (hbm.cell (p := ⟨b, off + k * 3, none⟩) hbB).trans hc0
      have hd1 : wr.cell? ⟨b, off + k * 3 + 1, none⟩ = some l[k].vb := (hbm.cell (p := ⟨b, off + k * 3 + 1, none⟩) hbB).trans hc1
      have hd2 : wr.cell? ⟨b, off + k * 3 + 2, none⟩ = some l[k].vi := (hbm.cell (p := ⟨b, off + k * 3 + 2, none⟩) hbB).trans hc2
      have hr2 := (h2 _ (List.getElem_mem hlt)).bel hbm
      have hsz := hb.size
      clear hcell hc0 hc1 hc2 hbm
      go_wp2_with fail
      refine (HV.out l[k] (List.getElem_mem hlt) B _ hr2 (by omega) (HS.out _ (List.getElem_mem hlt))).mono ?_
      rintro e w2 ⟨_, rfl, ⟨y, hy, rfl, hown3⟩, hb1⟩
      have hrs2 := OwVs.snoc (hrs.keep (Out.of_below hb1 0 0) (.inr (Nat.zero_le _))) hown3 (Nat.le_refl _) (by omega) hb1.size
      obtain ⟨yn, yb, vb, vi, yl⟩ := y
      obtain ⟨A1, c1, ev1⟩ := own_slice hown3.own.bytes
      obtain ⟨A2, c2, ev2⟩ := own_slice hown3.own.row
      simp only [VM.vb_mk, VM.b_mk, VM.vi_mk, VM.items_mk] at ev1 ev2
      subst ev1 ev2
      unfold vmV
      simp only [VM.n_mk, VM.vb_mk, VM.vi_mk]
      have hown2 := own_below hownr hb1 (Nat.le_refl _)
      have hb2 := hb.trans (hb1.mono (by omega))
      have hz2' := hb1.size
      clear hd0 hd1 hd2 hownr hb hb1 hr2 hrs hown3
      have hold : ∀ j, j < 3 → ∃ u, w2.cell? ⟨w.heap.size, k * 3 + j, none⟩ = some u := by
        intro j hj
        rw [hown2.cellAt (k * 3 + j) (by omega)]
        exact ⟨_, List.getElem?_eq_getElem (by rw [hown2.1]; omega)⟩
      obtain ⟨u0', hu0⟩ := hold 0 (by omega)
      have hf0 := hown2.frozenAt (k * 3)
      obtain ⟨u1', hu1⟩ := hold 1 (by omega)
      have hf1 := hown2.frozenAt (k * 3 + 1)
      obtain ⟨u2', hu2⟩ := hold 2 (by omega)
      have hf2 := hown2.frozenAt (k * 3 + 2)
      rw [Nat.add_zero] at hu0
      clear hold
      have hDc : (D.flatMap vmCells).length = k * 3 := by rw [flatMap_len vmCells 3 vmCells_length, hDl]
      have hys : 3 ≤ ys.length := by
        have := hown2.1
        rw [List.length_append, hDc] at this
        omega
      have hp := own_putCells (vmCells (.mk yn yb (.slice A1 yb.length c1) (.slice A2 yl.length c2) yl)) _ _ ys (by simpa [vmCells] using hys) hown2
      rw [hDc] at hp
      have e1 : D.flatMap vmCells ++ vmCells (.mk yn yb (.slice A1 yb.length c1) (.slice A2 yl.length c2) yl) = (D ++ [(.mk yn yb (.slice A1 yb.length c1) (.slice A2 yl.length c2) yl : VM)]).flatMap vmCells := by simp
      rw [e1] at hp
      have hpb := below_putCells (g := w.heap.size) (vmCells (.mk yn yb (.slice A1 yb.length c1) (.slice A2 yl.length c2) yl)) _ (k * 3) hb2 (Nat.le_refl _)
      have hpo : Out w.heap.size (w.heap.size + 1) w2 _ := Out.of_grown (grownBy_putCells (g := w.heap.size) (vmCells (.mk yn yb (.slice A1 yb.length c1) (.slice A2 yl.length c2) yl)) w2 (k * 3)) (fun g hg => by cases hg; omega)
      have hps := hrs2.keep hpo (.inr (Nat.le_refl _))
      have hpe := putCells_size w.heap.size (vmCells (.mk yn yb (.slice A1 yb.length c1) (.slice A2 yl.length c2) yl)) w2 (k * 3)
      rw [← hpe] at hps
      have hsize : w.heap.size + 1 ≤ (putCells w2 w.heap.size (k * 3) (vmCells (.mk yn yb (.slice A1 yb.length c1) (.slice A2 yl.length c2) yl))).heap.size := by rw [hpe]; omega
      have HP := Lib.hid (And.intro hp (And.intro hps (And.intro hpb hsize)))
      have HD := Lib.hid (show (D ++ [(.mk yn yb (.slice A1 yb.length c1) (.slice A2 yl.length c2) yl : VM)]).map VM.d = (l.take (k + 1)).map VM.d by
        rw [List.map_append, hD, List.take_succ_eq_append_getElem hlt, List.map_append]; simp only [List.map_cons, List.map_nil]; rw [hy])
      clear hp hps hpb hpo hpe hys hown2 hb2 hrs2 hD hDl hDc e1 hy hsize hwr
      go_wp2
      go_roundw
      case rel => exact ⟨k + 1, by omega, by go_num, HP.out.2.2.2, ⟨_, _, HD.out, HP.out.1, HP.out.2.1⟩, HP.out.2.2.1⟩
      case measure => simp [intOf]; omega
    · have hkl : k = l.length := by omega
      have hys : ys = [] := by
        have := hownr.1
        rw [List.length_append, flatMap_len vmCells 3 vmCells_length, hDl] at this
        exact List.eq_nil_of_length_eq_zero (by omega)
      rw [hkl, List.take_length] at hD
      have hDl' : D.length = l.length := by omega
      rw [hys, List.append_nil] at hownr
      have H := Lib.hid (And.intro hD (And.intro hownr (And.intro hrs hb)))
      have HL := Lib.hid (And.intro hDl' hwr)
      clear hkl hys hownr hb hcell hD hDl hDl' hrs hwr
      go_wp2
      go_ret
      exact ⟨_, rfl, ⟨D, w.heap.size + 1, H.out.1, by rw [HL.out.1]; exact ⟨H.out.2.1, val_lt_succ _ _⟩, by omega, HL.out.2, H.out.2.2.1⟩, H.out.2.2.2⟩
set_option maxHeartbeats 2000000 in
set_option maxRecDepth 100000 in
theorem toValue_any (x : VM) : ToV x := by
  induction x using VM.induct with
  | h nn b vb vi l ih =>
  intro B w h hB hs
  have hb' := h.bytes
  have hi' := h.its
  simp only [VM.vb_mk, VM.b_mk, VM.vi_mk, VM.items_mk] at hb' hi'
  rw [VM.d_mk, Val.size_mk] at hs
  have hll := Val.length_le (l.map VM.d)
  rw [List.length_map] at hll
  have hsm : ∀ x ∈ l, x.d.size ≤ 1048576 := fun x hx => by have := Val.size_le_of_mem (List.mem_map_of_mem (f := VM.d) hx); omega
  have IH := Lib.hid (And.intro ih hsm)
  have HI := Lib.hid hi'
  have h1 : b.length ≤ 1048576 := by omega
  have h2 : l.length ≤ 1048576 := by omega
  clear ih h hs hsm hi' hll
  rw [VM.d_mk]
  show Calls Tryd.prog 17 #[.agg #[.int .i64 nn, vb, vi]] w _
  go_enter Tryd.func17, Tryd.ntmps17
  go_wp2_with fail
  refine (made_of_fresh (toByteS_any _ b B _ (hb'.below ((((Below.refl B w).alloc hB _).alloc (by simp; omega) _).alloc (by simp; omega) _)) (by simp; omega) (by omega))).mono ?_
  rintro e W1 ⟨v1, rfl, own1, bel1⟩
  obtain ⟨A1, c1, rfl⟩ := row_slice own1
  have b1 : Below w.heap.size w W1 := below_step bel1 ((((Below.refl w.heap.size w).alloc (Nat.le_refl _) _).alloc (by simp) _).alloc (by simp; omega) _)
  have own1 : OwB b (w.heap.size + 3) W1.heap.size W1 (.slice A1 b.length c1) := by have := own1; simp only [World.size_alloc] at this; exact this
  have z1 := bel1.size
  simp only [World.size_alloc] at z1
  have f1 : W1.frozen? ⟨w.heap.size + 2, 1, none⟩ = false := (bel1.frozen (p := ⟨w.heap.size + 2, 1, none⟩) (by simp <;> omega)).trans (by simp [go_sem])
  have f2 : W1.frozen? ⟨w.heap.size + 2, 2, none⟩ = false := (bel1.frozen (p := ⟨w.heap.size + 2, 2, none⟩) (by simp <;> omega)).trans (by simp [go_sem])
  have g0 : W1.frozen? ⟨w.heap.size + 1, 0, none⟩ = false := (bel1.frozen (p := ⟨w.heap.size + 1, 0, none⟩) (by simp <;> omega)).trans (by simp [go_sem])
  have g1 : W1.frozen? ⟨w.heap.size + 1, 1, none⟩ = false := (bel1.frozen (p := ⟨w.heap.size + 1, 1, none⟩) (by simp <;> omega)).trans (by simp [go_sem])
  have g2 : W1.frozen? ⟨w.heap.size + 1, 2, none⟩ = false := (bel1.frozen (p := ⟨w.heap.size + 1, 2, none⟩) (by simp <;> omega)).trans (by simp [go_sem])
  have p2' : W1.cell? ⟨w.heap.size, 2, none⟩ = some vi := cell_later bel1 (by simp [go_sem])
  have o0' : W1.cell? ⟨w.heap.size + 2, 0, none⟩ = some (.int .i64 nn) := cell_later bel1 (by simp [go_sem])
  have o1' : W1.cell? ⟨w.heap.size + 2, 1, none⟩ = some (.slice none 0 0) := cell_later bel1 (by simp [go_sem])
  have o2' : W1.cell? ⟨w.heap.size + 2, 2, none⟩ = some (.slice none 0 0) := cell_later bel1 (by simp [go_sem])
  have r0' : W1.cell? ⟨w.heap.size + 1, 0, none⟩ = some (.int .i64 0) := cell_later bel1 (by simp [go_sem])
  have r1' : W1.cell? ⟨w.heap.size + 1, 1, none⟩ = some (.slice none 0 0) := cell_later bel1 (by simp [go_sem])
  have r2' : W1.cell? ⟨w.heap.size + 1, 2, none⟩ = some (.slice none 0 0) := cell_later bel1 (by simp [go_sem])
  have p2 := p2'
  have o0 := o0'
  have o1 := o1'
  have o2 := o2'
  have r0 := r0'
  have r1 := r1'
  have r2 := r2'
  clear p2' o0' o1' o2' r0' r1' r2' bel1
  go_wp2_with fail
  refine (toValueS_of vi l B _ (HI.out.below (Below.setCell (p := ⟨w.heap.size + 2, 1, none⟩) (b1.mono hB) (by show B ≤ w.heap.size + 2; omega) _)) (by simp; omega) h2 IH.out.2 (fun x hx => IH.out.1 x hx)).mono ?_
  rintro e W2 ⟨v2, rfl, own2, bel2⟩
  have own2 : OwVL (l.map VM.d) W1.heap.size W2.heap.size W2 v2 := by have := own2; simp only [World.size_setCell] at this; exact this
  obtain ⟨A2, c2, rfl⟩ := own2.slice
  rw [List.length_map] at own2 ⊢
  have b2 : Below w.heap.size w W2 := below_step bel2 (Below.setCell (p := ⟨w.heap.size + 2, 1, none⟩) b1 (by show w.heap.size ≤ w.heap.size + 2; omega) _)
  have z2 := bel2.size
  simp only [World.size_setCell] at z2
  have own1 := (own1.keep (Out.of_grown (lo := w.heap.size + 2) (hi := w.heap.size + 3) (grownBy_setCell W1 (w.heap.size + 2) 1 (.slice A1 b.length c1)) (fun g hg => by cases hg; omega)) (by omega)).keep (Out.of_below bel2 0 0) (by omega)
  have f2 : W2.frozen? ⟨w.heap.size + 2, 2, none⟩ = false := (bel2.frozen (p := ⟨w.heap.size + 2, 2, none⟩) (by simp <;> omega)).trans (by simp [go_sem, f2])
  have g0 : W2.frozen? ⟨w.heap.size + 1, 0, none⟩ = false := (bel2.frozen (p := ⟨w.heap.size + 1, 0, none⟩) (by simp <;> omega)).trans (by simp [go_sem, g0])
  have g1 : W2.frozen? ⟨w.heap.size + 1, 1, none⟩ = false := (bel2.frozen (p := ⟨w.heap.size + 1, 1, none⟩) (by simp <;> omega)).trans (by simp [go_sem, g1])
  have g2 : W2.frozen? ⟨w.heap.size + 1, 2, none⟩ = false := (bel2.frozen (p := ⟨w.heap.size + 1, 2, none⟩) (by simp <;> omega)).trans (by simp [go_sem, g2])
  have o0' : W2.cell? ⟨w.heap.size + 2, 0, none⟩ = some (.int .i64 nn) := cell_later bel2 (by first | (simp [go_sem, o0]; done) | (simp [go_sem]; done) | simp [go_sem, o0, o1, o2, r0, r1, r2])
  have o1' : W2.cell? ⟨w.heap.size + 2, 1, none⟩ = some (.slice A1 b.length c1) := cell_later bel2 (by first | (simp [go_sem, o1]; done) | (simp [go_sem]; done) | simp [go_sem, o0, o1, o2, r0, r1, r2])
  have o2' : W2.cell? ⟨w.heap.size + 2, 2, none⟩ = some (.slice none 0 0) := cell_later bel2 (by first | (simp [go_sem, o2]; done) | (simp [go_sem]; done) | simp [go_sem, o0, o1, o2, r0, r1, r2])
  have r0' : W2.cell? ⟨w.heap.size + 1, 0, none⟩ = some (.int .i64 0) := cell_later bel2 (by first | (simp [go_sem, r0]; done) | (simp [go_sem]; done) | simp [go_sem, o0, o1, o2, r0, r1, r2])
  have r1' : W2.cell? ⟨w.heap.size + 1, 1, none⟩ = some (.slice none 0 0) := cell_later bel2 (by first | (simp [go_sem, r1]; done) | (simp [go_sem]; done) | simp [go_sem, o0, o1, o2, r0, r1, r2])
  have r2' : W2.cell? ⟨w.heap.size + 1, 2, none⟩ = some (.slice none 0 0) := cell_later bel2 (by first | (simp [go_sem, r2]; done) | (simp [go_sem]; done) | simp [go_sem, o0, o1, o2, r0, r1, r2])
  clear p2 o0 o1 o2 r0 r1 r2
  have o0 := o0'
  have o1 := o1'
  have o2 := o2'
  have r0 := r0'
  have r1 := r1'
  have r2 := r2'
  clear o0' o1' o2' r0' r1' r2' bel2 f1
  have HB := Lib.hid b2
  have HO := Lib.hid (And.intro own1 own2)
  clear b1 b2 own1 own2 hb'
  go_wp2
  refine bodyPost_ret (v := .agg #[.int .i64 nn, .slice A1 b.length c1, .slice A2 l.length c2]) (by simp [results, Tryd.results17, go_sem, r0, r1, r2, o2]) rfl ⟨_, rfl, ?_, ?_⟩
  all_goals clear f2 g0 g1 g2 o0 o1 o2 r0 r1 r2
  · have ho := HO.out
    obtain ⟨h1, h2⟩ := ho
    refine OwV.fin (h1.keep (lo' := w.heap.size + 1) (hi' := w.heap.size + 3) ?_ (by omega)) (h2.keep (lo' := w.heap.size + 1) (hi' := w.heap.size + 3) ?_ (by omega)) (by omega) (by simp) (by omega)
    · repeat (refine Out.setCell ?_ (by omega) (by omega) _)
      exact Out.refl _ _ _
    · repeat (refine Out.setCell ?_ (by omega) (by omega) _)
      exact Out.refl _ _ _
  · have hb := HB.out
    have e1 : w.heap.size ≤ w.heap.size + 1 + 1 := by omega
    have e2 : w.heap.size ≤ w.heap.size + 1 := by omega
    exact (((hb.setCell (p := ⟨w.heap.size + 1 + 1, 2, none⟩) e1 _).setCell (p := ⟨w.heap.size + 1, 0, none⟩) e2 _).setCell (p := ⟨w.heap.size + 1, 1, none⟩) e2 _).setCell (p := ⟨w.heap.size + 1, 2, none⟩) e2 _
end Go.Proofs.YtkfmdkogifmfmaaDoor
