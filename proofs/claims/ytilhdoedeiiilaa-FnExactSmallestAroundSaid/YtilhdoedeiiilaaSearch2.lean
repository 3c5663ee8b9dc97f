/- The walks of EntryAt and SmallestAround, spec and impl: the last entry that meets a test. Conditions: the slice reads as a list of entries whose numbers are ints. -/
import Derived.Test.YtilhdoedeiiilaaSearch
namespace Go.Proofs.Ytilhdoedeiiilaa
open Go.RowKit

def holdsAt (x : Int) (e : Ent) : Bool := decide (e.start ≤ x) && decide (x < e.stop)

set_option maxHeartbeats 1000000 in
theorem specEntryAt_any (v : Value) (l : List Ent) (x : Int) (B : Nat) (w : World) (h : SlE w B v l) :
    Calls Try.prog 43 #[v, .int .i64 x] w (Quiet w (.int .i64 (lastTo (hit (holdsAt x) l) l.length))) := by
  obtain ⟨A, c, rfl, hc, hm, hcell⟩ := h.open_
  unfold maxLen at hm
  clear h
  go_enter Try.func43, Try.ntmps43
  go_wp2
  go_loopw [5, 6] (fun r i wr => ∃ k n : Nat, k ≤ l.length ∧ i = .int .i64 k ∧ r = .int .i64 (lastTo (hit (holdsAt x) l) k) ∧ wr = w.drewN n) (fun _ i _ => l.length - (intOf i).toNat)
  case atStart => exact ⟨0, 0, Nat.zero_le _, rfl, rfl, rfl⟩
  case round =>
    obtain ⟨k, n, hk, rfl, rfl, rfl⟩ := hrel
    by_cases hlt : k < l.length
    · obtain ⟨b, off, rfl, hbB, hc0, hc1, hc2, hc3⟩ := hcell k hlt
      clear hcell hc0 hc1
      by_cases h1 : l[k].start ≤ x
      · by_cases h2 : x < l[k].stop
        · have HX := Lib.hid (lastTo_yes (p := hit (holdsAt x) l) (k := k) (by rw [hit_at hlt]; simp [holdsAt, h1, h2]))
          go_wp2
          all_goals (try (go_quiet (fail)))
          all_goals (try go_wp2)
          go_roundw
          case rel => exact ⟨k + 1, _, by omega, by go_num, by rw [HX.out], rfl⟩
          case measure => simp [intOf] <;> omega
        · have HX := Lib.hid (lastTo_no (p := hit (holdsAt x) l) (k := k) (by rw [hit_at hlt]; simp [holdsAt]; omega))
          have hd2 : decide (x < l[k].stop) = false := by simpa using h2
          go_wp2
          all_goals (try (go_quiet (fail)))
          all_goals (try go_wp2)
          go_roundw
          case rel => exact ⟨k + 1, _, by omega, by go_num, by rw [HX.out], rfl⟩
          case measure => simp [intOf] <;> omega
      · have HX := Lib.hid (lastTo_no (p := hit (holdsAt x) l) (k := k) (by rw [hit_at hlt]; simp [holdsAt]; omega))
        have hd1 : decide (l[k].start ≤ x) = false := by simpa using h1
        go_wp2
        all_goals (try (go_quiet (fail)))
        all_goals (try go_wp2)
        go_roundw
        case rel => exact ⟨k + 1, _, by omega, by go_num, by rw [HX.out], rfl⟩
        case measure => simp [intOf] <;> omega
    · obtain rfl : k = l.length := by omega
      clear hcell
      go_wp2
      go_ret
      exact ⟨rfl, _, rfl⟩

set_option maxHeartbeats 400000 in
theorem placed_any (e : Ent) (w : World) :
    Calls Try.prog 64 #[entV e] w fun x w' => x = .returned (.agg #[.string e.path, .int .i64 e.rule, .int .i64 e.start, .int .i64 e.stop, .int .i64 e.start, .int .i64 e.stop]) ∧ Below w.heap.size w w' := by
  unfold entV
  go_enter Try.func64, Try.ntmps64
  go_wp2
  refine bodyPost_ret (v := .agg #[.string e.path, .int .i64 e.rule, .int .i64 e.start, .int .i64 e.stop, .int .i64 e.start, .int .i64 e.stop]) (by simp [results, Try.results64, go_sem]) rfl ⟨rfl, ?_⟩
  exact (by repeat (first | exact Below.refl _ _ | assumption | refine Below.alloc ?_ (by simp <;> omega) _ | refine Below.setCell ?_ (by simp <;> omega) _ | refine Below.drew ?_ | refine below_drewN ?_ _))

theorem field_span (x0 x1 x2 x3 x4 x5 : Value) (w : World) : (Instr.field 71 (.agg #[x0, x1, x2, x3, x4, x5]) 1).run Try.prog w = .ok (.agg #[x4, x5]) w := by kernel_rfl

set_option maxHeartbeats 1000000 in
theorem implEntryAt_any (v : Value) (l : List Ent) (x : Int) (B : Nat) (w : World) (h : SlE w B v l) (hB : B ≤ w.heap.size) :
    Calls Try.prog 44 #[v, .int .i64 x] w fun e w' => e = .returned (.int .i64 (lastTo (hit (holdsAt x) l) l.length)) ∧ Below w.heap.size w w' := by
  obtain ⟨A, c, rfl, hc, hm, hcell⟩ := h.open_
  unfold maxLen at hm
  clear h
  have hfs := field_span
  go_enter Try.func44, Try.ntmps44
  go_wp2
  go_loopw [5] (fun i wr => ∃ k : Nat, k ≤ l.length ∧ i = .int .i64 ((k : Int) - 1) ∧ lastTo (hit (holdsAt x) l) l.length = lastTo (hit (holdsAt x) l) k ∧ Below w.heap.size w wr) (fun i _ => (intOf i + 1).toNat)
  case atStart => exact ⟨l.length, Nat.le_refl _, rfl, rfl, Below.refl _ _⟩
  case round =>
    obtain ⟨k, hk, rfl, hf, hb⟩ := hrel
    have HF := Lib.hid hf
    clear hf
    by_cases hpos : 0 < k
    · obtain ⟨j, rfl⟩ : ∃ j, k = j + 1 := ⟨k - 1, by omega⟩
      have hlt : j < l.length := by omega
      rw [show ((j + 1 : Nat) : Int) - 1 = (j : Int) from by omega]
      obtain ⟨b, off, rfl, hbB, hc0, hc1, hc2, hc3⟩ := hcell j hlt
      have hd0 := cell_later hb hc0
      have hd1 := cell_later hb hc1
      have hd2 := cell_later hb hc2
      have hd3 := cell_later hb hc3
      have hblt := World.block_lt_of_cell? wr _ hd0
      have hsz := hb.size
      clear hcell hc0 hc1 hc2 hc3
      by_cases h1 : l[j].start ≤ x
      · by_cases h2 : x < l[j].stop
        · have HX := Lib.hid (HF.out.trans (lastTo_yes (p := hit (holdsAt x) l) (k := j) (by rw [hit_at hlt]; simp [holdsAt, h1, h2])))
          go_wp2_with (first | (go_at_call 64; refine (placed_any l[j] _).mono ?_; rintro e w2 ⟨rfl, hb1⟩) | go_in)
          go_ret
          exact ⟨ret_int HX.out.symm, (below_step hb1 hb).alloc (by have := hb1.size; omega) _⟩
        · have HX := Lib.hid (HF.out.trans (lastTo_no (p := hit (holdsAt x) l) (k := j) (by rw [hit_at hlt]; simp [holdsAt]; omega)))
          have hd2 : decide (x < l[j].stop) = false := by simpa using h2
          go_wp2_with (first | (go_at_call 64; refine (placed_any l[j] _).mono ?_; rintro e w2 ⟨rfl, hb1⟩) | go_in)
          go_roundw
          case rel => exact ⟨j, by omega, by go_num, HX.out, (below_step hb1 hb).alloc (by have := hb1.size; omega) _⟩
          case measure => simp [intOf] <;> omega
      · have HX := Lib.hid (HF.out.trans (lastTo_no (p := hit (holdsAt x) l) (k := j) (by rw [hit_at hlt]; simp [holdsAt]; omega)))
        have hd1 : decide (l[j].start ≤ x) = false := by simpa using h1
        go_wp2_with (first | (go_at_call 64; refine (placed_any l[j] _).mono ?_; rintro e w2 ⟨rfl, hb1⟩) | go_in)
        go_roundw
        case rel => exact ⟨j, by omega, by go_num, HX.out, (below_step hb1 hb).alloc (by have := hb1.size; omega) _⟩
        case measure => simp [intOf] <;> omega
    · obtain rfl : k = 0 := by omega
      have HX := Lib.hid (HF.out.trans rfl)
      clear hcell
      go_wp2
      go_ret
      exact ⟨ret_int (HX.out.trans rfl).symm, hb⟩

def around (a r : Int) (e : Ent) : Bool := decide (e.start ≤ a) && (decide (a ≤ e.stop) && decide (r ≤ e.stop - a))

def aroundI (a r : Int) (l : List Ent) : Int := if 0 ≤ a ∧ 0 ≤ r then lastTo (hit (around a r) l) l.length else -1

set_option maxHeartbeats 2000000 in
theorem specSmallestAround_any (v : Value) (l : List Ent) (a r : Int) (B : Nat) (w : World) (h : SlE w B v l) (hok : ∀ e ∈ l, e.ok) (ha : InI64 a) (hr : InI64 r) :
    Calls Try.prog 45 #[v, .int .i64 a, .int .i64 r] w (Quiet w (.int .i64 (aroundI a r l))) := by
  obtain ⟨A, c, rfl, hc, hm, hcell⟩ := h.open_
  unfold maxLen at hm
  clear h
  obtain ⟨ha0, ha1⟩ := ha
  obtain ⟨hr0, hr1⟩ := hr
  by_cases hz : 0 ≤ a ∧ 0 ≤ r
  · rw [aroundI, if_pos hz]
    obtain ⟨hza, hzr⟩ := hz
    go_enter Try.func45, Try.ntmps45
    go_wp2
    go_loopw [7, 8] (fun q i wr => ∃ k n : Nat, k ≤ l.length ∧ i = .int .i64 k ∧ q = .int .i64 (lastTo (hit (around a r) l) k) ∧ wr = w.drewN n) (fun _ i _ => l.length - (intOf i).toNat)
    case atStart => exact ⟨0, 0, Nat.zero_le _, rfl, rfl, rfl⟩
    case round =>
      obtain ⟨k, n, hk, rfl, rfl, rfl⟩ := hrel
      by_cases hlt : k < l.length
      · obtain ⟨b, off, rfl, hbB, hc0, hc1, hc2, hc3⟩ := hcell k hlt
        obtain ⟨_, _, ⟨hs0, hs1⟩, ⟨he0, he1⟩⟩ := hok l[k] (List.getElem_mem hlt)
        clear hcell hc0 hc1 hok
        by_cases h1 : l[k].start ≤ a
        · by_cases h2 : a ≤ l[k].stop
          · by_cases h3 : r ≤ l[k].stop - a
            · have HX := Lib.hid (lastTo_yes (p := hit (around a r) l) (k := k) (by rw [hit_at hlt]; simp [around, h1, h2, h3]))
              go_wp2
              all_goals (try (go_quiet (fail)))
              all_goals (try go_wp2)
              go_roundw
              case rel => exact ⟨k + 1, _, by omega, by go_num, by rw [HX.out], rfl⟩
              case measure => simp [intOf] <;> omega
            · have HX := Lib.hid (lastTo_no (p := hit (around a r) l) (k := k) (by rw [hit_at hlt]; simp [around]; omega))
              have hd3 : decide (r ≤ l[k].stop - a) = false := by simpa using h3
              go_wp2
              all_goals (try (go_quiet (fail)))
              all_goals (try go_wp2)
              go_roundw
              case rel => exact ⟨k + 1, _, by omega, by go_num, by rw [HX.out], rfl⟩
              case measure => simp [intOf] <;> omega
          · have HX := Lib.hid (lastTo_no (p := hit (around a r) l) (k := k) (by rw [hit_at hlt]; simp [around]; omega))
            have hd2 : decide (a ≤ l[k].stop) = false := by simpa using h2
            go_wp2
            all_goals (try (go_quiet (fail)))
            all_goals (try go_wp2)
            go_roundw
            case rel => exact ⟨k + 1, _, by omega, by go_num, by rw [HX.out], rfl⟩
            case measure => simp [intOf] <;> omega
        · have HX := Lib.hid (lastTo_no (p := hit (around a r) l) (k := k) (by rw [hit_at hlt]; simp [around]; omega))
          have hd1 : decide (l[k].start ≤ a) = false := by simpa using h1
          go_wp2
          all_goals (try (go_quiet (fail)))
          all_goals (try go_wp2)
          go_roundw
          case rel => exact ⟨k + 1, _, by omega, by go_num, by rw [HX.out], rfl⟩
          case measure => simp [intOf] <;> omega
      · obtain rfl : k = l.length := by omega
        have hdk : decide ((l.length : Int) < (l.length : Int)) = false := by simp
        clear hcell hok
        go_wp2
        go_ret
        exact ⟨rfl, _, rfl⟩
  · rw [aroundI, if_neg hz]
    by_cases hza : 0 ≤ a
    · have hzr : decide (0 ≤ r) = false := decide_eq_false (by omega)
      clear hz
      go_enter Try.func45, Try.ntmps45
      go_wp2
      go_loop [7, 8] (fun q i => q = .int .i64 (-1) ∧ i = .int .i64 0) (fun _ _ => 0)
      case atStart => exact ⟨rfl, rfl⟩
      case round =>
        obtain ⟨rfl, rfl⟩ := hrel
        by_cases hl0 : 0 < l.length
        · go_wp2
          go_ret
          exact ⟨rfl, 0, rfl⟩
        · have hdk : decide ((0 : Int) < (l.length : Int)) = false := decide_eq_false (by omega)
          go_wp2
          go_ret
          exact ⟨rfl, 0, rfl⟩
    · have hdz : decide (0 ≤ a) = false := decide_eq_false (by omega)
      clear hz
      go_enter Try.func45, Try.ntmps45
      go_wp2
      go_loop [7, 8] (fun q i => q = .int .i64 (-1) ∧ i = .int .i64 0) (fun _ _ => 0)
      case atStart => exact ⟨rfl, rfl⟩
      case round =>
        obtain ⟨rfl, rfl⟩ := hrel
        by_cases hl0 : 0 < l.length
        · go_wp2
          go_ret
          exact ⟨rfl, 0, rfl⟩
        · have hdk : decide ((0 : Int) < (l.length : Int)) = false := decide_eq_false (by omega)
          go_wp2
          go_ret
          exact ⟨rfl, 0, rfl⟩

set_option maxHeartbeats 2000000 in
theorem implSmallestAround_any (v : Value) (l : List Ent) (a r : Int) (B : Nat) (w : World) (h : SlE w B v l) (hB : B ≤ w.heap.size) (hok : ∀ e ∈ l, e.ok) (ha : InI64 a) (hr : InI64 r) :
    Calls Try.prog 46 #[v, .int .i64 a, .int .i64 r] w fun e w' => e = .returned (.int .i64 (aroundI a r l)) ∧ Below w.heap.size w w' := by
  obtain ⟨A, c, rfl, hc, hm, hcell⟩ := h.open_
  unfold maxLen at hm
  clear h
  obtain ⟨ha0, ha1⟩ := ha
  obtain ⟨hr0, hr1⟩ := hr
  by_cases hz : 0 ≤ a ∧ 0 ≤ r
  · rw [aroundI, if_pos hz]
    obtain ⟨hza, hzr⟩ := hz
    have hda : decide (a < 0) = false := decide_eq_false (by omega)
    have hdr : decide (r < 0) = false := decide_eq_false (by omega)
    go_enter Try.func46, Try.ntmps46
    go_wp2
    go_loopw [7] (fun i wr => ∃ k : Nat, k ≤ l.length ∧ i = .int .i64 ((k : Int) - 1) ∧ lastTo (hit (around a r) l) l.length = lastTo (hit (around a r) l) k ∧ Below w.heap.size w wr) (fun i _ => (intOf i + 1).toNat)
    case atStart => exact ⟨l.length, Nat.le_refl _, rfl, rfl, Below.refl _ _⟩
    case round =>
      obtain ⟨k, hk, rfl, hf, hb⟩ := hrel
      have HF := Lib.hid hf
      clear hf
      by_cases hpos : 0 < k
      · obtain ⟨j, rfl⟩ : ∃ j, k = j + 1 := ⟨k - 1, by omega⟩
        have hlt : j < l.length := by omega
        rw [show ((j + 1 : Nat) : Int) - 1 = (j : Int) from by omega]
        obtain ⟨b, off, rfl, hbB, hc0, hc1, hc2, hc3⟩ := hcell j hlt
        obtain ⟨_, _, ⟨hs0, hs1⟩, ⟨he0, he1⟩⟩ := hok l[j] (List.getElem_mem hlt)
        have hd0 := cell_later hb hc0
        have hd1 := cell_later hb hc1
        have hd2 := cell_later hb hc2
        have hd3 := cell_later hb hc3
        have hblt := World.block_lt_of_cell? wr _ hd0
        have hsz := hb.size
        have HB := Lib.hid hb
        clear hcell hc0 hc1 hc2 hc3 hok hb
        by_cases h1 : l[j].start ≤ a
        · by_cases h2 : a ≤ l[j].stop
          · by_cases h3 : r ≤ l[j].stop - a
            · have HX := Lib.hid (HF.out.trans (lastTo_yes (p := hit (around a r) l) (k := j) (by rw [hit_at hlt]; simp [around, h1, h2, h3])))
              go_wp2
              go_ret
              exact ⟨ret_int HX.out.symm, HB.out.alloc hsz _⟩
            · have HX := Lib.hid (HF.out.trans (lastTo_no (p := hit (around a r) l) (k := j) (by rw [hit_at hlt]; simp [around]; omega)))
              have hx3 : decide (r ≤ l[j].stop - a) = false := by simpa using h3
              go_wp2
              go_roundw
              case rel => exact ⟨j, by omega, by go_num, HX.out, HB.out.alloc hsz _⟩
              case measure => simp [intOf] <;> omega
          · have HX := Lib.hid (HF.out.trans (lastTo_no (p := hit (around a r) l) (k := j) (by rw [hit_at hlt]; simp [around]; omega)))
            have hx2 : decide (a ≤ l[j].stop) = false := by simpa using h2
            go_wp2
            go_roundw
            case rel => exact ⟨j, by omega, by go_num, HX.out, HB.out.alloc hsz _⟩
            case measure => simp [intOf] <;> omega
        · have HX := Lib.hid (HF.out.trans (lastTo_no (p := hit (around a r) l) (k := j) (by rw [hit_at hlt]; simp [around]; omega)))
          have hx1 : decide (l[j].start ≤ a) = false := by simpa using h1
          go_wp2
          go_roundw
          case rel => exact ⟨j, by omega, by go_num, HX.out, HB.out.alloc hsz _⟩
          case measure => simp [intOf] <;> omega
      · obtain rfl : k = 0 := by omega
        have HX := Lib.hid (HF.out.trans rfl)
        clear hcell hok
        go_wp2
        go_ret
        exact ⟨ret_int (HX.out.trans rfl).symm, hb⟩
  · rw [aroundI, if_neg hz]
    clear hcell hok
    by_cases hza : 0 ≤ a
    · have hda : decide (a < 0) = false := decide_eq_false (by omega)
      have hdr : decide (r < 0) = true := decide_eq_true (by omega)
      clear hz
      go_enter Try.func46, Try.ntmps46
      go_wp2
      go_ret
      exact ⟨rfl, Below.refl _ _⟩
    · have hda : decide (a < 0) = true := decide_eq_true (by omega)
      clear hz
      go_enter Try.func46, Try.ntmps46
      go_wp2
      go_ret
      exact ⟨rfl, Below.refl _ _⟩
end Go.Proofs.Ytilhdoedeiiilaa
