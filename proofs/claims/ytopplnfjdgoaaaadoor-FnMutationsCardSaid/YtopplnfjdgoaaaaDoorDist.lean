/- The walks of Distance, spec and impl. Conditions: the slices read as lists of at most 2^21 bytes. -/
import Derived.Test.YtopplnfjdgoaaaaDoorRows
import Derived.Test.YtopplnfjdgoaaaaDoorApp2
import Derived.Test.YtopplnfjdgoaaaaDoorNum
import Derived.Test.YtopplnfjdgoaaaaDoorDistM
import Derived.WalkSpells
import Derived.WalkLawsBesides
import Derived.BigQuiet
import Derived.Deep.QuietTactic
import Derived.Deep.RegionHeld3
import Derived.StillTailTactics
namespace Go.Proofs.YtopplnfjdgoaaaaDoor
open Go.RowKit

theorem Tryd.info_int : (Tryd.prog.info? 3).map (fun i => (i.zero, i.size, i.bytes)) = some (some (.int .i64 0), 1, 8) := by kernel_rfl
theorem sl_int_one {W : World} {z : Int} {t : TypeId} {g : Nat} (hg : g = W.heap.size) : Sl (W.alloc (.cells #[.int .i64 z] t)) (W.heap.size + 1) 1 (.slice (some ⟨g, 0, none⟩) 1 1) 1 [.int .i64 z] := by
  subst hg
  refine ⟨by simp, _, _, rfl, by simp, by simp [maxLen], fun _ => ⟨W.heap.size, 0, rfl, by omega, fun j u hu => ?_⟩⟩
  match j, hu with
  | 0, hu => simp only [List.getElem?_cons_zero, Option.some.injEq] at hu; subst hu; simp [go_sem]
  | j + 1, hu => simp at hu
theorem own_one (w : World) (e : TypeId) (x : Value) : (w.alloc (.cells #[x] e)).ownsRow w.heap.size e 1 (.slice (some ⟨w.heap.size, 0, none⟩) 1 1) 1 [x] :=
  ⟨rfl, .inr ⟨w.heap.size, 1, #[x], rfl, Nat.le_refl _, heap_alloc_new w _, Nat.le_refl _, by simp [maxLen], rfl, rfl⟩⟩
theorem own_at {w : World} {base : Nat} {e : TypeId} {v : Value} {n : Nat} {xs : List Value} (h : w.ownsRow base e 1 v n xs) (hn : 0 < n) :
    ∃ g c, v = .slice (some ⟨g, 0, none⟩) n c ∧ base ≤ g ∧ n ≤ c ∧ c ≤ maxLen ∧ (∀ k, k < n → w.cell? ⟨g, k, none⟩ = xs[k]?) := by
  rcases h.2 with ⟨rfl, rfl⟩ | ⟨g, cap, cur, rfl, hb, hg, hc, hm, hs⟩
  · omega
  · exact ⟨g, cap, rfl, hb, hc, hm, fun k hk => h.cellAt k (by omega)⟩

theorem val_i {a b : Int} (h : a = b) : Value.int .i64 a = .int .i64 b := by rw [h]
theorem calls_same {P : Program} {f : FuncId} {args : Array Value} {w : World} {v : Value} (h : Calls P f args w fun e w' => e = .returned v ∧ w = w') : Calls P f args w fun e w' => e = .returned v ∧ w' = w :=
  h.mono fun _ _ h => ⟨h.1, h.2.symm⟩
set_option maxHeartbeats 2000000 in
set_option maxRecDepth 100000 in
theorem specDist_any (v u : Value) (a b : List UInt8) (B : Nat) (w : World) (h : SlB w B v a) (g : SlB w B u b) (hB : B ≤ w.heap.size) (ha : a.length ≤ 2097152) (hb : b.length ≤ 2097152) :
    Calls Tryd.prog 19 #[v, u] w fun e w' => e = .returned (.int .i64 (dist a b a.length b.length : Nat)) ∧ Below w.heap.size w w' := by
  obtain ⟨i0, hi, hz0, hz1, hz2⟩ := info_parts Tryd.info_int
  obtain ⟨A, c, rfl, hc, hm, hcell⟩ := h.open_
  obtain ⟨A', c', rfl, hc', hm', hcell'⟩ := g.open_
  unfold maxLen at hm hm'
  clear h g
  go_enter Tryd.func19, Tryd.ntmps19
  go_wp2
  go_loopw [5, 6] (fun o i wr => ∃ k : Nat, k ≤ b.length + 1 ∧ i = .int .i64 k ∧ wr.ownsRow w.heap.size 3 1 o k (distRow a b 0 k) ∧ Below w.heap.size w wr) (fun _ i _ => b.length + 1 - (intOf i).toNat)
  case atStart => exact ⟨0, Nat.zero_le _, rfl, own_empty _ _ _, (Below.refl _ _).alloc (Nat.le_refl _) _⟩
  case round =>
    obtain ⟨k, hk, rfl, hown, hbel⟩ := hrel
    have hsz := hbel.size
    by_cases hlt : k ≤ b.length
    · have HE := Lib.hid (show distRow a b 0 k ++ [.int .i64 (k : Nat)] = distRow a b 0 (k + 1) by rw [distRow_succ, dist_zero])
      clear hcell hcell'
      go_wp2_with (at_builtin; refine wpList_app _ rfl (.tmp 18) (.tmp 20) 56 rfl w.heap.size 3 i0 (.int .i64 0) 1 8 Tryd.underlying56 hi hz0 hz1 hz2 rfl (by decide) _ k _ rfl (own_below hown ((Below.refl _ _).alloc (Nat.le_refl _) _) (Nat.le_refl _)) _ 1 _ [.int .i64 (k : Int)] rfl (sl_int_one (by simp)) (by simp [Value.oneCell']) (by omega) (by unfold maxLen; omega) (by simp; omega) ?_; intro v1 w1 own1 hg1 _)
      have hb1 := below_app hg1 (own_below hown ((Below.refl _ _).alloc (Nat.le_refl _) _) (Nat.le_refl _)) (Nat.le_refl _) (by simp; omega) (hbel.alloc hbel.size _)
      rw [HE.out] at own1
      have H := Lib.hid (And.intro own1 hb1)
      clear own1 hb1 hg1 hown hbel
      go_roundw
      case rel => exact ⟨k + 1, by omega, by go_num, H.out.1, H.out.2⟩
      case measure => simp [intOf]; omega
    · have hkb : k = b.length + 1 := by omega
      rw [hkb] at hown
      have hle : decide ((k : Int) ≤ b.length) = false := decide_eq_false (by omega)
      clear hkb
      go_wp2
      clear hle
      obtain ⟨wo, hwo⟩ : ∃ wo : World, wo = wr := ⟨_, rfl⟩
      subst hwo
      go_loopw [5, 7, 8, 9, 10] (fun o i _ _ _ wr => ∃ j : Nat, j ≤ a.length ∧ i = .int .i64 ((j : Int) + 1) ∧ wr.ownsRow w.heap.size 3 1 o (b.length + 1) (distRow a b j (b.length + 1)) ∧ Below w.heap.size w wr) (fun _ i _ _ _ _ => a.length + 1 - (intOf i).toNat)
      case atStart => exact ⟨0, Nat.zero_le _, by go_num, hown, hbel⟩
      case round =>
        clear hown hbel hsz
        obtain ⟨j, hj, rfl, hown, hbel⟩ := hrel
        have hsz := hbel.size
        obtain ⟨gr, cr, rfl, hgr, hcr, hcm, hcellr⟩ := own_at hown (by omega)
        unfold maxLen at hcm
        have hgl : gr < wr.heap.size := (hown.lt gr rfl).2
        by_cases hlt : j < a.length
        · obtain ⟨ba, oa, rfl, hbaB, hca⟩ := hcell j hlt
          have HD1 := Lib.hid (show distRow a b (j + 1) 1 = [.int .i64 ((j : Int) + 1)] by rw [distRow_succ, dist_col]; simp [distRow])
          have ho1 : (wr.alloc (.cells #[.int .i64 ((j : Int) + 1)] 3)).ownsRow wr.heap.size 3 1 (.slice (some ⟨wr.heap.size, 0, none⟩) 1 1) 1 (distRow a b (j + 1) 1) := by rw [HD1.out]; exact own_one _ _ _
          have HO := Lib.hid hown
          have hja : decide ((j : Int) + 1 ≤ a.length) = true := decide_eq_true (by omega)
          clear hown
          go_wp2
          clear hja
          obtain ⟨wq, hwq⟩ : ∃ wq : World, wq = wr := ⟨_, rfl⟩
          subst hwq
          go_loopw [8, 9, 10] (fun x i _ ws => ∃ k : Nat, k ≤ b.length ∧ i = .int .i64 ((k : Int) + 1) ∧ ws.ownsRow wq.heap.size 3 1 x (k + 1) (distRow a b (j + 1) (k + 1)) ∧ Below wq.heap.size wq ws) (fun _ i _ _ => b.length + 1 - (intOf i).toNat)
          case atStart => exact ⟨0, Nat.zero_le _, by go_num, ho1, (Below.refl _ _).alloc (Nat.le_refl _) _⟩
          case round =>
            clear ho1 HD1
            obtain ⟨k, hk, rfl, hown2, hbel2⟩ := hrel
            have hsz2 := hbel2.size
            obtain ⟨gn, cn, rfl, hgn, hcn, hcnm, hcelln⟩ := own_at hown2 (by omega)
            unfold maxLen at hcnm
            by_cases hlt2 : k < b.length
            · obtain ⟨bb, ob, rfl, hbbB, hcb⟩ := hcell' k hlt2
              have hlb := dist_le a b j k
              have hlb2 := dist_le a b j (k + 1)
              have hlb3 := dist_le a b (j + 1) k
              have d1 : wr.cell? ⟨gr, k, none⟩ = some (.int .i64 (dist a b j k : Nat)) := (hbel2.cell (p := ⟨gr, k, none⟩) hgl).trans ((hcellr k (by omega)).trans (distRow_at _ _ _ _ _ (by omega)))
              have d2 : wr.cell? ⟨gr, k + 1, none⟩ = some (.int .i64 (dist a b j (k + 1) : Nat)) := (hbel2.cell (p := ⟨gr, k + 1, none⟩) hgl).trans ((hcellr (k + 1) (by omega)).trans (distRow_at _ _ _ _ _ (by omega)))
              have d3 : wr.cell? ⟨gn, k, none⟩ = some (.int .i64 (dist a b (j + 1) k : Nat)) := (hcelln k (by omega)).trans (distRow_at _ _ _ _ _ (by omega))
              have hbw := hbel.trans (hbel2.mono hbel.size)
              have d4 := (hbw.cell (p := ⟨ba, oa + j, none⟩) (by show ba < _; omega)).trans hca
              have d5 := (hbw.cell (p := ⟨bb, ob + k, none⟩) (by show bb < _; omega)).trans hcb
              clear hcellr hcelln hcell hcell' hca hcb hbw
              by_cases he : a[j] = b[k]
              · have hbe : ((a[j].toNat : Int) == (b[k].toNat : Int)) = true := by rw [he]; simp
                have HI := Lib.hid ((byte_eq_iff hlt hlt2).2 he)
                clear he
                go_wp2
                go_quiet (fail)
                have f1 : ((k : Int) + 1).toNat = k + 1 := by omega
                have f2 : (0 : Int) ≤ (k : Int) + 1 := by omega
                have f3 : (k : Int) + 1 < (b.length : Int) + 1 := by omega
                have f4 : IntKind.i64.wrap ((k : Int) + 1 - 1) = k := by rw [IntWalk.i64_in _ (by omega)]; omega
                have f5 : IntKind.i64.wrap (k : Int) = k := IntWalk.i64_in _ (by omega)
                have f8 : ¬ (k : Int) + 1 ≤ k := by omega
                have f6 : IntKind.i64.wrap (min ((dist a b j (k + 1) : Nat) : Int) (dist a b (j + 1) k : Nat) + 1) = min ((dist a b j (k + 1) : Nat) : Int) (dist a b (j + 1) k : Nat) + 1 := IntWalk.i64_in _ (by omega)
                have HV := Lib.hid (show distRow a b (j + 1) (k + 1) ++ [.int .i64 (min (((dist a b j k : Nat) : Int)) (min ((dist a b j (k + 1) : Nat) : Int) (dist a b (j + 1) k : Nat) + 1))] = distRow a b (j + 1) (k + 1 + 1) by
                  rw [distRow_succ a b (j + 1) (k + 1), dist_succ, if_pos HI.out]; simp only [List.append_cancel_left_eq, List.cons.injEq, and_true]; exact val_i (by omega))
                have HK := Lib.hid (show k + 2 ≤ 2097153 by omega)
                have HQ := Lib.hid (show k < k + 1 by omega)
                have HO2 := Lib.hid hown2
                have HB2 := Lib.hid hbel2
                have HS2 := Lib.hid (show wq.heap.size ≤ wr.heap.size from hsz2)
                have hgrn := Lib.hid (show gr ≠ gn by omega)
                clear hown2 hbel2 hsz2
                go_wp2
                go_region_held3 (fun w' => w'.cell? ⟨gr, k + 1, none⟩ = some (.int .i64 (dist a b j (k + 1) : Nat)) ∧ w'.cell? ⟨gn, k, none⟩ = some (.int .i64 (dist a b (j + 1) k : Nat)))
                  (first | exact ⟨d2, d3⟩ | exact ⟨e2, e3⟩ | exact ⟨cell_later (by repeat (first | exact Below.refl _ _ | assumption | refine Below.alloc ?_ (by first | omega | (simp <;> omega)) _ | refine Below.setCell ?_ (by first | omega | (simp <;> omega)) _ | refine Below.drew ?_ | refine below_drewN ?_ _)) d2, cell_later (by repeat (first | exact Below.refl _ _ | assumption | refine Below.alloc ?_ (by first | omega | (simp <;> omega)) _ | refine Below.setCell ?_ (by first | omega | (simp <;> omega)) _ | refine Below.drew ?_ | refine below_drewN ?_ _)) d3⟩)
                  (first
                    | (go_at_call 32; refine (specMin_any _ _ _).mono ?_; rintro e w9 ⟨rfl, rfl⟩)
                    | (refine step_app2 (by rfl) (.tmp 54) (.tmp 68) 56 rfl wq.heap.size 3 i0 (.int .i64 0) 1 8 Tryd.underlying56 hi hz0 hz1 hz2 rfl (by decide) (.slice (some ⟨gn, 0, none⟩) (k + 1) cn) (k + 1) _ rfl (own_below HO2.out (by repeat (first | exact Below.refl _ _ | assumption | refine Below.alloc ?_ (by first | omega | (simp <;> omega)) _ | refine Below.setCell ?_ (by first | omega | (simp <;> omega)) _ | refine Below.drew ?_ | refine below_drewN ?_ _)) (Nat.le_refl _)) _ 1 _ [_] rfl (sl_int_one (by simp)) (by simp [Value.oneCell']) (by omega) (by omega) (by unfold maxLen; omega) (by have := HS2.out; simp; omega) ?_; intro v1 w1 own1 hg1 hd1 hk1; have e3 := (hk1 gn cn rfl k (by have := HQ.out; omega)).trans (cell_later (by repeat (first | exact Below.refl _ _ | assumption | refine Below.alloc ?_ (by first | omega | (simp <;> omega)) _ | refine Below.setCell ?_ (by first | omega | (simp <;> omega)) _ | refine Below.drew ?_ | refine below_drewN ?_ _)) d3); have e2 := hg1.cell (cell_later (by repeat (first | exact Below.refl _ _ | assumption | refine Below.alloc ?_ (by first | omega | (simp <;> omega)) _ | refine Below.setCell ?_ (by first | omega | (simp <;> omega)) _ | refine Below.drew ?_ | refine below_drewN ?_ _)) d2) (by simp [Value.ownBlock, hgrn.out])))
                have hbz : Below wq.heap.size wq w1 := below_app hg1 (own_below HO2.out (by repeat (first | exact Below.refl _ _ | assumption | refine Below.alloc ?_ (by first | omega | (simp <;> omega)) _ | refine Below.setCell ?_ (by first | omega | (simp <;> omega)) _ | refine Below.drew ?_ | refine below_drewN ?_ _)) (Nat.le_refl _)) (Nat.le_refl _) (by have := HS2.out; simp; omega) (Below.alloc (below_drewN HB2.out _) (by have := HS2.out; simp; omega) _)
                rw [HV.out] at own1
                have H := Lib.hid (And.intro own1 hbz)
                clear own1 hbz hg1 hd1 hk1 e2 e3 d1 d2 d3 d4 d5 f1 f2 f3 f4 f5 f6
                go_wp2
                go_roundw
                case rel => exact ⟨k + 1, by omega, by go_num, H.out.1, H.out.2⟩
                case measure => simp [intOf]; omega
              · have hbe := u8_int_ne he
                have HI := Lib.hid (show ¬ (a[j]? = b[k]?) from fun h => he ((byte_eq_iff hlt hlt2).1 h))
                clear he
                go_wp2
                go_quiet (fail)
                have f1 : ((k : Int) + 1).toNat = k + 1 := by omega
                have f2 : (0 : Int) ≤ (k : Int) + 1 := by omega
                have f3 : (k : Int) + 1 < (b.length : Int) + 1 := by omega
                have f4 : IntKind.i64.wrap ((k : Int) + 1 - 1) = k := by rw [IntWalk.i64_in _ (by omega)]; omega
                have f5 : IntKind.i64.wrap (k : Int) = k := IntWalk.i64_in _ (by omega)
                have f8 : ¬ (k : Int) + 1 ≤ k := by omega
                have f6 : IntKind.i64.wrap (min ((dist a b j (k + 1) : Nat) : Int) (dist a b (j + 1) k : Nat) + 1) = min ((dist a b j (k + 1) : Nat) : Int) (dist a b (j + 1) k : Nat) + 1 := IntWalk.i64_in _ (by omega)
                have HV := Lib.hid (show distRow a b (j + 1) (k + 1) ++ [.int .i64 (min ((dist a b j k : Nat) : Int) (min ((dist a b j (k + 1) : Nat) : Int) (dist a b (j + 1) k : Nat)) + 1)] = distRow a b (j + 1) (k + 1 + 1) by
                  rw [distRow_succ a b (j + 1) (k + 1), dist_succ, if_neg HI.out]; simp only [List.append_cancel_left_eq, List.cons.injEq, and_true]; exact val_i (by omega))
                have HK := Lib.hid (show k + 2 ≤ 2097153 by omega)
                have HQ := Lib.hid (show k < k + 1 by omega)
                have HO2 := Lib.hid hown2
                have HB2 := Lib.hid hbel2
                have HS2 := Lib.hid (show wq.heap.size ≤ wr.heap.size from hsz2)
                have hgrn := Lib.hid (show gr ≠ gn by omega)
                clear hown2 hbel2 hsz2
                go_wp2
                go_region_held3 (fun w' => w'.cell? ⟨gr, k + 1, none⟩ = some (.int .i64 (dist a b j (k + 1) : Nat)) ∧ w'.cell? ⟨gn, k, none⟩ = some (.int .i64 (dist a b (j + 1) k : Nat)))
                  (first | exact ⟨d2, d3⟩ | exact ⟨e2, e3⟩ | exact ⟨cell_later (by repeat (first | exact Below.refl _ _ | assumption | refine Below.alloc ?_ (by first | omega | (simp <;> omega)) _ | refine Below.setCell ?_ (by first | omega | (simp <;> omega)) _ | refine Below.drew ?_ | refine below_drewN ?_ _)) d2, cell_later (by repeat (first | exact Below.refl _ _ | assumption | refine Below.alloc ?_ (by first | omega | (simp <;> omega)) _ | refine Below.setCell ?_ (by first | omega | (simp <;> omega)) _ | refine Below.drew ?_ | refine below_drewN ?_ _)) d3⟩)
                  (first
                    | (go_at_call 32; refine (specMin_any _ _ _).mono ?_; rintro e w9 ⟨rfl, rfl⟩)
                    | (refine step_app2 (by rfl) (.tmp 54) (.tmp 68) 56 rfl wq.heap.size 3 i0 (.int .i64 0) 1 8 Tryd.underlying56 hi hz0 hz1 hz2 rfl (by decide) (.slice (some ⟨gn, 0, none⟩) (k + 1) cn) (k + 1) _ rfl (own_below HO2.out (by repeat (first | exact Below.refl _ _ | assumption | refine Below.alloc ?_ (by first | omega | (simp <;> omega)) _ | refine Below.setCell ?_ (by first | omega | (simp <;> omega)) _ | refine Below.drew ?_ | refine below_drewN ?_ _)) (Nat.le_refl _)) _ 1 _ [_] rfl (sl_int_one (by simp)) (by simp [Value.oneCell']) (by omega) (by omega) (by unfold maxLen; omega) (by have := HS2.out; simp; omega) ?_; intro v1 w1 own1 hg1 hd1 hk1; have e3 := (hk1 gn cn rfl k (by have := HQ.out; omega)).trans (cell_later (by repeat (first | exact Below.refl _ _ | assumption | refine Below.alloc ?_ (by first | omega | (simp <;> omega)) _ | refine Below.setCell ?_ (by first | omega | (simp <;> omega)) _ | refine Below.drew ?_ | refine below_drewN ?_ _)) d3); have e2 := hg1.cell (cell_later (by repeat (first | exact Below.refl _ _ | assumption | refine Below.alloc ?_ (by first | omega | (simp <;> omega)) _ | refine Below.setCell ?_ (by first | omega | (simp <;> omega)) _ | refine Below.drew ?_ | refine below_drewN ?_ _)) d2) (by simp [Value.ownBlock, hgrn.out])))
                have hbz : Below wq.heap.size wq w1 := below_app hg1 (own_below HO2.out (by repeat (first | exact Below.refl _ _ | assumption | refine Below.alloc ?_ (by first | omega | (simp <;> omega)) _ | refine Below.setCell ?_ (by first | omega | (simp <;> omega)) _ | refine Below.drew ?_ | refine below_drewN ?_ _)) (Nat.le_refl _)) (Nat.le_refl _) (by have := HS2.out; simp; omega) (Below.alloc (below_drewN HB2.out _) (by have := HS2.out; simp; omega) _)
                rw [HV.out] at own1
                have H := Lib.hid (And.intro own1 hbz)
                clear own1 hbz hg1 hd1 hk1 e2 e3 d1 d2 d3 d4 d5 f1 f2 f3 f4 f5 f6
                go_wp2
                go_roundw
                case rel => exact ⟨k + 1, by omega, by go_num, H.out.1, H.out.2⟩
                case measure => simp [intOf]; omega
            · obtain rfl : k = b.length := by omega
              have H := Lib.hid (And.intro (own_base hown2 hbel.size) (hbel.trans (hbel2.mono hbel.size)))
              clear hcellr hcelln hcell hcell' hown2 hbel2 hbel HO hsz2 hgl
              go_wp2
              go_roundw
              case rel => exact ⟨j + 1, by omega, by go_num, H.out.1, H.out.2⟩
              case measure => simp [intOf]; omega
        · obtain rfl : j = a.length := by omega
          have hce := hcellr b.length (by omega)
          rw [distRow_at _ _ _ _ _ (by omega)] at hce
          clear hcell hcell' hcellr hown
          go_wp2
          go_ret
          exact ⟨rfl, hbel⟩
end Go.Proofs.YtopplnfjdgoaaaaDoor
