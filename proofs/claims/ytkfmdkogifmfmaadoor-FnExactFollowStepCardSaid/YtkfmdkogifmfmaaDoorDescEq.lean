/- The walks of eqRule, eqRuleS, eqDescription on equal data, and of szRuleS, szDescription. Conditions: the slices read as the data. -/
import Derived.Test.YtkfmdkogifmfmaaDoorDescTo2
import Derived.WalkSpells
import Derived.WalkLawsBesides
import Derived.Deep.RegionHeld3
namespace Go.Proofs.YtkfmdkogifmfmaaDoor
set_option linter.unusedSimpArgs false
set_option linter.unusedVariables false
open Go.RowKit

set_option maxHeartbeats 1000000 in
set_option maxRecDepth 100000 in
theorem eqRule_same (r r' : RM) (hd : r'.d = r.d) (B B' : Nat) (w : World) (h : r.rd w B) (h' : r'.rd w B') (hB : B ≤ w.heap.size) (hB' : B' ≤ w.heap.size) :
    Calls Tryd.prog 45 #[rmV r, rmV r'] w (True1 w) := by
  obtain ⟨d, vb, vn, vt, vk⟩ := r
  obtain ⟨d', vb', vn', vt', vk'⟩ := r'
  obtain rfl : d' = d := hd
  have g1 : ∀ o o', Below w.heap.size w ((w.alloc o).alloc o') := fun o o' => ((Below.refl _ _).alloc (Nat.le_refl _) _).alloc (by simp) _
  unfold rmV
  dsimp only
  have k1 := fun o o' n => h.below (below_drewN ((g1 o o').mono hB) n)
  have k2 := fun o o' n => h'.below (below_drewN ((g1 o o').mono hB') n)
  have z1 := fun o o' => h.below ((g1 o o').mono hB)
  have z2 := fun o o' => h'.below ((g1 o o').mono hB')
  have Z1 := Lib.hid z1
  have Z2 := Lib.hid z2
  clear z1 z2
  have K1 := Lib.hid k1
  have K2 := Lib.hid k2
  clear k1 k2 h h'
  go_enter Tryd.func45, Tryd.ntmps45
  go_wp2_with fail
  refine (eqByteS_any _ _ d'.bytes d'.bytes _ _ _ (Z1.out _ _).b (Z2.out _ _).b).mono ?_
  rw [beq_self_eq_true]
  rintro e w2 ⟨rfl, n1, rfl⟩
  go_wp2_with fail
  refine (eqStringS_any _ _ d'.names d'.names B B' _ (K1.out _ _ _).n (K2.out _ _ _).n).mono ?_
  rw [decide_eq_true rfl]
  rintro e w2 ⟨rfl, n2, rfl⟩
  go_wp2_with fail
  refine (eqIntS_any _ _ d'.tags d'.tags B B' _ (K1.out _ _ _).t (K2.out _ _ _).t).mono ?_
  rw [decide_eq_true rfl]
  rintro e w2 ⟨rfl, n3, rfl⟩
  go_wp2_with fail
  refine (eqIntS_any _ _ d'.kids d'.kids B B' _ (K1.out _ _ _).k (K2.out _ _ _).k).mono ?_
  rw [decide_eq_true rfl]
  rintro e w2 ⟨rfl, n4, rfl⟩
  go_wp2_with fail
  go_ret
  exact ⟨rfl, below_drewN (g1 _ _) _⟩

set_option maxHeartbeats 2000000 in
set_option maxRecDepth 100000 in
theorem eqRuleS_same (v v' : Value) (l l' : List RM) (B B' : Nat) (w : World) (h : SlD w B v l) (h' : SlD w B' v' l') (hB : B ≤ w.heap.size) (hB' : B' ≤ w.heap.size) (hd : l'.map RM.d = l.map RM.d) :
    Calls Tryd.prog 26 #[v, v'] w (True1 w) := by
  have h2 := h.2
  have h2' := h'.2
  have hlen : l'.length = l.length := by have := congrArg List.length hd; simpa using this
  have hat : ∀ k (h1 : k < l.length) (h2 : k < l'.length), l'[k].d = l[k].d := fun k h1 h2 => by
    have e1 : (l'.map RM.d)[k]? = (l.map RM.d)[k]? := by rw [hd]
    rw [List.getElem?_map, List.getElem?_map, List.getElem?_eq_getElem h1, List.getElem?_eq_getElem h2] at e1
    simpa using e1
  obtain ⟨A, c, rfl, hc, hm, hcell⟩ := h.open_
  obtain ⟨A', c', rfl, hc', hm', hcell'⟩ := h'.open_
  unfold maxLen at hm hm'
  clear h h' hd
  have hb0 : ((l.length : Int) == (l'.length : Int)) = true := by rw [hlen]; simp
  have hb1 : ((l.length : Int) != (l'.length : Int)) = false := by rw [hlen]; simp
  have HL := Lib.hid hlen
  have hle1 : l.length ≤ l'.length := by omega
  have hle2 : l'.length ≤ l.length := by omega
  clear hlen
  go_enter Tryd.func26, Tryd.ntmps26
  go_wp2
  go_loopw [5] (fun i wr => ∃ k : Nat, k ≤ l.length ∧ i = .int .i64 k ∧ Below w.heap.size w wr) (fun i _ => l.length - (intOf i).toNat)
  case atStart => exact ⟨0, Nat.zero_le _, rfl, Below.refl _ _⟩
  case round =>
    obtain ⟨k, hk, rfl, hb⟩ := hrel
    by_cases hlt : k < l.length
    · have hlt' : k < l'.length := by omega
      obtain ⟨b, off, rfl, hbB, hc0, hc1, hc2, hc3, hc4, hc5, hc6, hc7⟩ := hcell k hlt
      obtain ⟨b', off', rfl, hbB', hc0', hc1', hc2', hc3', hc4', hc5', hc6', hc7'⟩ := hcell' k hlt'
      have hbm := hb.mono hB
      have hbm' := hb.mono hB'
      have hd0 : wr.cell? ⟨b, off + k * 8, none⟩ = some (.string l[k].d.name) := (hbm.cell (p := ⟨b, off + k * 8, none⟩) hbB).trans hc0
      have hd1 : wr.cell? ⟨b, off + k * 8 + 1, none⟩ = some (.int .i64 l[k].d.kind) := (hbm.cell (p := ⟨b, off + k * 8 + 1, none⟩) hbB).trans hc1
      have hd2 : wr.cell? ⟨b, off + k * 8 + 2, none⟩ = some (.int .i64 l[k].d.size) := (hbm.cell (p := ⟨b, off + k * 8 + 2, none⟩) hbB).trans hc2
      have hd3 : wr.cell? ⟨b, off + k * 8 + 3, none⟩ = some (.bool l[k].d.little) := (hbm.cell (p := ⟨b, off + k * 8 + 3, none⟩) hbB).trans hc3
      have hd4 : wr.cell? ⟨b, off + k * 8 + 4, none⟩ = some l[k].vb := (hbm.cell (p := ⟨b, off + k * 8 + 4, none⟩) hbB).trans hc4
      have hd5 : wr.cell? ⟨b, off + k * 8 + 5, none⟩ = some l[k].vn := (hbm.cell (p := ⟨b, off + k * 8 + 5, none⟩) hbB).trans hc5
      have hd6 : wr.cell? ⟨b, off + k * 8 + 6, none⟩ = some l[k].vt := (hbm.cell (p := ⟨b, off + k * 8 + 6, none⟩) hbB).trans hc6
      have hd7 : wr.cell? ⟨b, off + k * 8 + 7, none⟩ = some l[k].vk := (hbm.cell (p := ⟨b, off + k * 8 + 7, none⟩) hbB).trans hc7
      have hd0' : wr.cell? ⟨b', off' + k * 8, none⟩ = some (.string l[k].d.name) := (hbm'.cell (p := ⟨b', off' + k * 8, none⟩) hbB').trans (hc0'.trans (by rw [hat k hlt hlt']))
      have hd1' : wr.cell? ⟨b', off' + k * 8 + 1, none⟩ = some (.int .i64 l[k].d.kind) := (hbm'.cell (p := ⟨b', off' + k * 8 + 1, none⟩) hbB').trans (hc1'.trans (by rw [hat k hlt hlt']))
      have hd2' : wr.cell? ⟨b', off' + k * 8 + 2, none⟩ = some (.int .i64 l[k].d.size) := (hbm'.cell (p := ⟨b', off' + k * 8 + 2, none⟩) hbB').trans (hc2'.trans (by rw [hat k hlt hlt']))
      have hd3' : wr.cell? ⟨b', off' + k * 8 + 3, none⟩ = some (.bool l[k].d.little) := (hbm'.cell (p := ⟨b', off' + k * 8 + 3, none⟩) hbB').trans (hc3'.trans (by rw [hat k hlt hlt']))
      have hd4' : wr.cell? ⟨b', off' + k * 8 + 4, none⟩ = some l'[k].vb := (hbm'.cell (p := ⟨b', off' + k * 8 + 4, none⟩) hbB').trans hc4'
      have hd5' : wr.cell? ⟨b', off' + k * 8 + 5, none⟩ = some l'[k].vn := (hbm'.cell (p := ⟨b', off' + k * 8 + 5, none⟩) hbB').trans hc5'
      have hd6' : wr.cell? ⟨b', off' + k * 8 + 6, none⟩ = some l'[k].vt := (hbm'.cell (p := ⟨b', off' + k * 8 + 6, none⟩) hbB').trans hc6'
      have hd7' : wr.cell? ⟨b', off' + k * 8 + 7, none⟩ = some l'[k].vk := (hbm'.cell (p := ⟨b', off' + k * 8 + 7, none⟩) hbB').trans hc7'
      have he := hat k hlt hlt'
      have r1 := (h2 _ (List.getElem_mem hlt)).below hbm
      have r2 : RM.rd wr B' ⟨l[k].d, l'[k].vb, l'[k].vn, l'[k].vt, l'[k].vk⟩ := by have := (h2' _ (List.getElem_mem hlt')).below hbm'; rw [← he]; exact this
      have hsz := hb.size
      have R1 := Lib.hid (And.intro r1 r2)
      have HB := Lib.hid hb
      clear hcell hcell' hbm hbm' r1 r2 he hb hat h2 h2' hc0 hc1 hc2 hc3 hc4 hc5 hc6 hc7 hc0' hc1' hc2' hc3' hc4' hc5' hc6' hc7'
      go_wp2_with fail
      go_region_held3 (fun w' => w'.cell? ⟨b, off + k * 8, none⟩ = some (.string l[k].d.name) ∧ w'.cell? ⟨b, off + k * 8 + 1, none⟩ = some (.int .i64 l[k].d.kind) ∧ w'.cell? ⟨b, off + k * 8 + 2, none⟩ = some (.int .i64 l[k].d.size) ∧ w'.cell? ⟨b, off + k * 8 + 3, none⟩ = some (.bool l[k].d.little) ∧ w'.cell? ⟨b, off + k * 8 + 4, none⟩ = some l[k].vb ∧ w'.cell? ⟨b, off + k * 8 + 5, none⟩ = some l[k].vn ∧ w'.cell? ⟨b, off + k * 8 + 6, none⟩ = some l[k].vt ∧ w'.cell? ⟨b, off + k * 8 + 7, none⟩ = some l[k].vk ∧ w'.cell? ⟨b', off' + k * 8, none⟩ = some (.string l[k].d.name) ∧ w'.cell? ⟨b', off' + k * 8 + 1, none⟩ = some (.int .i64 l[k].d.kind) ∧ w'.cell? ⟨b', off' + k * 8 + 2, none⟩ = some (.int .i64 l[k].d.size) ∧ w'.cell? ⟨b', off' + k * 8 + 3, none⟩ = some (.bool l[k].d.little) ∧ w'.cell? ⟨b', off' + k * 8 + 4, none⟩ = some l'[k].vb ∧ w'.cell? ⟨b', off' + k * 8 + 5, none⟩ = some l'[k].vn ∧ w'.cell? ⟨b', off' + k * 8 + 6, none⟩ = some l'[k].vt ∧ w'.cell? ⟨b', off' + k * 8 + 7, none⟩ = some l'[k].vk)
        (first | exact ⟨hd0, hd1, hd2, hd3, hd4, hd5, hd6, hd7, hd0', hd1', hd2', hd3', hd4', hd5', hd6', hd7'⟩ | exact ⟨cell_later bel2 hd0, cell_later bel2 hd1, cell_later bel2 hd2, cell_later bel2 hd3, cell_later bel2 hd4, cell_later bel2 hd5, cell_later bel2 hd6, cell_later bel2 hd7, cell_later bel2 hd0', cell_later bel2 hd1', cell_later bel2 hd2', cell_later bel2 hd3', cell_later bel2 hd4', cell_later bel2 hd5', cell_later bel2 hd6', cell_later bel2 hd7'⟩)
        (first | (go_at_call 45; refine (eqRule_same l[k] ⟨l[k].d, l'[k].vb, l'[k].vn, l'[k].vt, l'[k].vk⟩ rfl B B' _ (R1.out.1.below ((Below.refl _ _).drew)) (R1.out.2.below ((Below.refl _ _).drew)) (by show B ≤ wr.heap.size; omega) (by show B' ≤ wr.heap.size; omega)).mono ?_; rintro e w2 ⟨rfl, bel2⟩))
      have HB2 := Lib.hid (below_step bel2 HB.out.drew)
      clear bel2 hd0 hd1 hd2 hd3 hd4 hd5 hd6 hd7 hd0' hd1' hd2' hd3' hd4' hd5' hd6' hd7'
      go_wp2
      go_roundw
      case rel => exact ⟨k + 1, by omega, by go_num, HB2.out⟩
      case measure => simp [intOf]; omega
    · clear hcell hcell' hat
      go_wp2
      go_ret
      exact ⟨rfl, hb⟩
set_option maxRecDepth 100000 in
theorem eqDescription_same (v v' : Value) (l l' : List RM) (B B' : Nat) (w : World) (h : SlD w B v l) (h' : SlD w B' v' l') (hB : B ≤ w.heap.size) (hB' : B' ≤ w.heap.size) (hd : l'.map RM.d = l.map RM.d) :
    Calls Tryd.prog 12 #[.agg #[v], .agg #[v']] w (True1 w) := by
  go_enter Tryd.func12, Tryd.ntmps12
  go_wp2_with fail
  have hE : Below w.heap.size w ((w.alloc (.cells #[v] 32)).alloc (.cells #[v'] 32)) := ((Below.refl w.heap.size w).alloc (Nat.le_refl _) _).alloc (by simp) _
  refine (eqRuleS_same v v' l l' B B' _ (h.below (hE.mono hB)) (h'.below (hE.mono hB')) (by simp; omega) (by simp; omega) hd).mono ?_
  rintro e w2 ⟨rfl, hb⟩
  have HB := Lib.hid (below_step hb hE)
  clear hb hE h h'
  go_wp2_with fail
  go_ret
  exact ⟨rfl, HB.out⟩

set_option maxHeartbeats 1000000 in
set_option maxRecDepth 100000 in
theorem szRuleS_any (v : Value) (l : List RM) (B : Nat) (n : Int) (w : World) (h : SlD w B v l) (hB : B ≤ w.heap.size) (ok : ∀ r ∈ l, r.d.ok) (h0 : 0 ≤ n) (h1 : n ≤ 1048576) :
    Calls Tryd.prog 20 #[v, .int .i64 n] w (SzL (l.length ≤ 1048576 ∧ ∀ r ∈ l, r.d.small 1048576) n w) := by
  have h2 := h.2
  obtain ⟨A, c, rfl, hc, hm, hcell⟩ := h.open_
  unfold maxLen at hm
  clear h
  by_cases hbig : n - l.length < 0
  · clear hcell h2
    go_enter Tryd.func20, Tryd.ntmps20
    go_wp2
    go_ret
    exact ⟨-1, rfl, Below.refl _ _, .inl rfl⟩
  · go_enter Tryd.func20, Tryd.ntmps20
    go_wp2
    go_loopw [1, 5] (fun q i wr => ∃ (k : Nat) (r : Int), k ≤ l.length ∧ i = .int .i64 k ∧ q = .int .i64 r ∧ 0 ≤ r ∧ r ≤ n ∧ (∀ e ∈ l.take k, e.d.small 1048576) ∧ Below w.heap.size w wr) (fun _ i _ => l.length - (intOf i).toNat)
    case atStart => exact ⟨0, _, Nat.zero_le _, rfl, rfl, by omega, by omega, by simp, Below.refl _ _⟩
    case round =>
      obtain ⟨k, r, hk, rfl, rfl, hr0, hr1, hall, hb⟩ := hrel
      have HA := Lib.hid hall
      clear hall
      by_cases hlt : k < l.length
      · obtain ⟨b, off, rfl, hbB, hc0, hc1, hc2, hc3, hc4, hc5, hc6, hc7⟩ := hcell k hlt
        have hbm := hb.mono hB
        have hd0 : wr.cell? ⟨b, off + k * 8, none⟩ = some (.string l[k].d.name) := (hbm.cell (p := ⟨b, off + k * 8, none⟩) hbB).trans hc0
        have hd1 : wr.cell? ⟨b, off + k * 8 + 1, none⟩ = some (.int .i64 l[k].d.kind) := (hbm.cell (p := ⟨b, off + k * 8 + 1, none⟩) hbB).trans hc1
        have hd2 : wr.cell? ⟨b, off + k * 8 + 2, none⟩ = some (.int .i64 l[k].d.size) := (hbm.cell (p := ⟨b, off + k * 8 + 2, none⟩) hbB).trans hc2
        have hd3 : wr.cell? ⟨b, off + k * 8 + 3, none⟩ = some (.bool l[k].d.little) := (hbm.cell (p := ⟨b, off + k * 8 + 3, none⟩) hbB).trans hc3
        have hd4 : wr.cell? ⟨b, off + k * 8 + 4, none⟩ = some l[k].vb := (hbm.cell (p := ⟨b, off + k * 8 + 4, none⟩) hbB).trans hc4
        have hd5 : wr.cell? ⟨b, off + k * 8 + 5, none⟩ = some l[k].vn := (hbm.cell (p := ⟨b, off + k * 8 + 5, none⟩) hbB).trans hc5
        have hd6 : wr.cell? ⟨b, off + k * 8 + 6, none⟩ = some l[k].vt := (hbm.cell (p := ⟨b, off + k * 8 + 6, none⟩) hbB).trans hc6
        have hd7 : wr.cell? ⟨b, off + k * 8 + 7, none⟩ = some l[k].vk := (hbm.cell (p := ⟨b, off + k * 8 + 7, none⟩) hbB).trans hc7
        have r1 := (h2 _ (List.getElem_mem hlt)).below hbm
        have hok := ok _ (List.getElem_mem hlt)
        have hsz := hb.size
        clear hcell hbm h2 ok hc0 hc1 hc2 hc3 hc4 hc5 hc6 hc7
        go_wp2_with fail
        refine (szRule_any l[k] B r _ r1 (by omega) hok hr0 (by omega)).mono ?_
        rintro e w2 ⟨r2, rfl, hb1, hr2⟩
        have H := Lib.hid (below_step hb1 hb)
        clear hd0 hd1 hd2 hd3 hd4 hd5 hd6 hd7 hb hb1 r1
        rcases hr2 with rfl | ⟨p1, p2, p3⟩
        · go_wp2
          go_ret
          exact ⟨-1, rfl, H.out, .inl rfl⟩
        · have HS := Lib.hid p3
          clear p3
          go_wp2
          go_roundw
          case rel =>
            refine ⟨k + 1, _, by omega, by go_num, rfl, by omega, by omega, ?_, H.out⟩
            intro e hmem
            rw [List.take_succ_eq_append_getElem hlt, List.mem_append] at hmem
            rcases hmem with hmem | hmem
            · exact HA.out e hmem
            · simp at hmem; subst hmem; exact HS.out
          case measure => simp [intOf]; omega
      · clear hcell h2 ok
        go_wp2
        go_ret
        refine ⟨r, rfl, hb, .inr ⟨hr0, hr1, by omega, ?_⟩⟩
        intro e he
        exact HA.out e (by rw [List.take_of_length_le (by omega)]; exact he)
set_option maxRecDepth 100000 in
theorem szDescription_any (v : Value) (l : List RM) (B : Nat) (n : Int) (w : World) (h : SlD w B v l) (hB : B ≤ w.heap.size) (ok : ∀ r ∈ l, r.d.ok) (h0 : 0 ≤ n) (h1 : n ≤ 1048576) :
    Calls Tryd.prog 6 #[.agg #[v], .int .i64 n] w (SzL (l.length ≤ 1048576 ∧ ∀ r ∈ l, r.d.small 1048576) n w) := by
  have hE : Below w.heap.size w (w.alloc (.cells #[v] 24)) := (Below.refl w.heap.size w).alloc (Nat.le_refl _) _
  go_enter Tryd.func6, Tryd.ntmps6
  go_wp2_with fail
  refine (szRuleS_any v l B n _ (h.below (hE.mono hB)) (by simp; omega) ok h0 h1).mono ?_
  rintro e w2 ⟨r, rfl, hb, hr⟩
  have HB := Lib.hid (below_step hb hE)
  clear hb hE h ok
  rcases hr with rfl | ⟨p1, p2, p3⟩
  · go_wp2_with fail
    go_ret
    exact ⟨-1, rfl, HB.out, .inl rfl⟩
  · have HS := Lib.hid p3
    clear p3
    go_wp2_with fail
    go_ret
    exact ⟨r, rfl, HB.out, .inr ⟨p1, p2, HS.out⟩⟩
end Go.Proofs.YtkfmdkogifmfmaaDoor
