/- The marks on descriptions: markIntS, markRuleS, markDescription. Conditions: the rows are the law's own, the marks fit an int. -/
import Derived.Test.YtnbemdcdokhknaaDescTo2
import Derived.Test.YtnbemdcdokhknaaStrMark
import Derived.Test.YtnbemdcdokhknaaDescTo2
import Derived.WalkSpells
import Derived.WalkLawsBesides
namespace Go.Proofs.Ytnbemdcdokhknaa
set_option linter.unusedSimpArgs false
set_option linter.unusedVariables false
open Go.RowKit
def intMarks (k n : Nat) : List Int := (List.range n).map fun i => ((k + i : Nat) : Int)
@[simp] theorem intMarks_length (k n : Nat) : (intMarks k n).length = n := by simp [intMarks]
theorem intMarks_succ (k n : Nat) : intMarks k (n + 1) = intMarks k n ++ [((k + n : Nat) : Int)] := by simp [intMarks, List.range_succ]
set_option maxHeartbeats 1000000 in
set_option maxRecDepth 100000 in
theorem markIntS_any (v : Value) (n : Nat) (xs : List Value) (k base : Nat) (w : World) (h : w.ownsRow base 3 1 v n xs) (h1 : 1 ≤ k) (hk : k + n ≤ 4611686018427387000) :
    Calls Try.prog 51 #[v, .int .i64 k] w (Marked w base 3 1 v n ((intMarks k n).map (.int .i64)) ((k : Int) + n)) := by
  have hlen : xs.length = n * 1 := h.1
  rcases h.2 with ⟨rfl, rfl⟩ | ⟨g, cap, cur, rfl, hb, hg, hc, hm, hs, ht⟩
  · go_enter Try.func51, Try.ntmps51
    go_wp2
    go_loop [1, 5] (fun q i => i = .int .i64 0 ∧ q = .int .i64 k) (fun _ i => (intOf i).toNat)
    case atStart => exact ⟨rfl, rfl⟩
    case round =>
      obtain ⟨rfl, rfl⟩ := hrel
      go_wp2
      go_ret
      exact ⟨ret_int (by simp), World.ownsRow_nil _ _ _ _, World.grownBy.refl _ _⟩
  · unfold maxLen at hm
    clear hg hs ht hb cur
    go_enter Try.func51, Try.ntmps51
    go_wp2
    go_loopw [1, 5] (fun q i wr => ∃ j : Nat, j ≤ n ∧ i = .int .i64 j ∧ q = .int .i64 ((k : Int) + j) ∧ (∃ ys, wr.ownsRow base 3 1 (.slice (some ⟨g, 0, none⟩) n cap) n ((intMarks k j).map (.int .i64) ++ ys)) ∧ w.grownBy wr (some g)) (fun _ i _ => n - (intOf i).toNat)
    case atStart => exact ⟨0, Nat.zero_le _, rfl, by go_num, ⟨xs, h⟩, World.grownBy.refl _ _⟩
    case round =>
      obtain ⟨j, hj, rfl, rfl, ⟨ys, hown⟩, hgr⟩ := hrel
      by_cases hlt : j < n
      · have hf0 := hown.frozenAt j
        have hold : ∃ u, wr.cell? ⟨g, j, none⟩ = some u := by
          rw [hown.cellAt j (by omega)]
          exact ⟨_, List.getElem?_eq_getElem (by rw [hown.1]; omega)⟩
        obtain ⟨u0, hu0⟩ := hold
        have hys : 1 ≤ ys.length := by
          have := hown.1
          rw [List.length_append, List.length_map, intMarks_length] at this
          omega
        have hp := own_putCells [.int .i64 ((k : Int) + j)] _ _ ys (by simpa using hys) hown
        rw [List.length_map, intMarks_length, ← show (intMarks k (j + 1)).map (Value.int .i64) = (intMarks k j).map (Value.int .i64) ++ [.int .i64 ((k : Int) + j)] by rw [intMarks_succ]; simp] at hp
        have hpb := grownBy_trans hgr (grownBy_putCells (g := g) [.int .i64 ((k : Int) + j)] wr j)
        have HP := Lib.hid (And.intro hp hpb)
        clear hp hpb hys hown hgr h
        go_wp2
        go_roundw
        case rel => exact ⟨j + 1, by omega, by go_num, by go_num, ⟨_, HP.out.1⟩, HP.out.2⟩
        case measure => simp [intOf]; omega
      · have hjn : j = n := by omega
        subst hjn
        have hys : ys = [] := by
          have := hown.1
          rw [List.length_append, List.length_map, intMarks_length] at this
          exact List.eq_nil_of_length_eq_zero (by omega)
        rw [hys, List.append_nil] at hown
        have H := Lib.hid (And.intro hown hgr)
        clear hown hgr h hlen hys
        go_wp2
        go_ret
        exact ⟨rfl, H.out.1, H.out.2⟩
/-- The call counts on from k, and writes nothing but blocks from lo up to hi. -/
def Counts (lo hi n k : Nat) (w : World) (e : Ending) (w' : World) : Prop := ∃ r : Nat, e = .returned (.int .i64 r) ∧ k ≤ r ∧ r ≤ k + n ∧ Out lo hi w w'
theorem Marked.counts {w w' : World} {base lo hi n k : Nat} {E : TypeId} {size : Nat} {v : Value} {xs : List Value} {e : Ending} (h : Marked w base E size v n xs ((k : Int) + n) e w') (hb : lo ≤ base) (hv : ∀ g, v.ownBlock = some g → g < hi) : Counts lo hi n k w e w' := by
  obtain ⟨rfl, ho, hg⟩ := h
  exact ⟨k + n, by simp, by omega, Nat.le_refl _, Out.of_grown hg fun g hk => ⟨Nat.le_trans hb (ho.lt g hk).1, hv g hk⟩⟩
theorem cntB {w : World} {v : Value} {l : List UInt8} {lo hi k : Nat} (h : OwB l lo hi w v) (hk : k ≤ 1125899906842624) (hl : l.length ≤ 1048576) :
    Calls Try.prog 49 #[v, .int .i64 k] w (Counts lo hi l.length k w) := (markByteS_any v l.length (u8s l) k lo w h.1 (by omega)).mono fun _ _ hq => hq.counts (Nat.le_refl _) h.2
theorem cntS {w : World} {v : Value} {l : List ByteArray} {lo hi k : Nat} (h : OwS l lo hi w v) (h1 : 1 ≤ k) (hk : k ≤ 1125899906842624) (hl : l.length ≤ 1048576) :
    Calls Try.prog 50 #[v, .int .i64 k] w (Counts lo hi l.length k w) := (markStringS_any v l.length _ k lo w h.1 h1 (by omega)).mono fun _ _ hq => hq.counts (Nat.le_refl _) h.2
theorem cntI {w : World} {v : Value} {l : List Int} {lo hi k : Nat} (h : OwI l lo hi w v) (h1 : 1 ≤ k) (hk : k ≤ 1125899906842624) (hl : l.length ≤ 1048576) :
    Calls Try.prog 51 #[v, .int .i64 k] w (Counts lo hi l.length k w) := (markIntS_any v l.length _ k lo w h.1 h1 (by omega)).mono fun _ _ hq => hq.counts (Nat.le_refl _) h.2
theorem own_lt {g m : Nat} (h : g < m) {n c : Nat} (o : Nat) : ∀ k, (Value.slice (some ⟨g, o, none⟩) n c).ownBlock = some k → k < m := by
  intro k hk
  have : g = k := by simpa [Value.ownBlock] using hk
  omega
/-- The slices of rule j in a row. -/
theorem rule_slices {w : World} {base n cap g : Nat} {E : TypeId} {pre ys : List Value} {x0 x1 x2 x3 x4 x5 x6 x7 : Value} {j : Nat} (h : w.ownsRow base E 8 (.slice (some ⟨g, 0, none⟩) n cap) n (pre ++ [x0, x1, x2, x3, x4, x5, x6, x7] ++ ys)) (hp : pre.length = j * 8) (hj : j < n) :
    w.cell? ⟨g, j * 8 + 4, none⟩ = some x4 ∧ w.cell? ⟨g, j * 8 + 5, none⟩ = some x5 ∧ w.cell? ⟨g, j * 8 + 6, none⟩ = some x6 ∧ w.cell? ⟨g, j * 8 + 7, none⟩ = some x7 := by
  have hat : ∀ i, i < 8 → w.cell? ⟨g, j * 8 + i, none⟩ = [x0, x1, x2, x3, x4, x5, x6, x7][i]? := by
    intro i hi
    rw [h.cellAt (j * 8 + i) (by omega), List.append_assoc, List.getElem?_append_right (by omega), hp, Nat.add_sub_cancel_left, List.getElem?_append_left (by simpa using hi)]
  exact ⟨hat 4 (by omega), hat 5 (by omega), hat 6 (by omega), hat 7 (by omega)⟩
set_option maxHeartbeats 4000000 in
set_option maxRecDepth 100000 in
theorem markRuleS_any (v : Value) (l : List RM) (k lo m hi : Nat) (w : World) (h : w.ownsRow lo 52 8 v l.length (l.flatMap rmCells)) (hv : ∀ g, v.ownBlock = some g → g < m) (hlo : lo ≤ m) (hr : OwRs hi w l m)
    (hs : ∀ r ∈ l, r.d.small 1048576) (hl : l.length ≤ 1048576) (h1 : 1 ≤ k) (hk : k ≤ 1099511627776) :
    Calls Try.prog 37 #[v, .int .i64 k] w (Counts lo hi (4194308 * l.length) k w) := by
  rcases h.2 with ⟨rfl, h0⟩ | ⟨g, cap, cur, rfl, hb, hg, hc, hm, hss, ht⟩
  · rw [h0]
    go_enter Try.func37, Try.ntmps37
    go_wp2
    go_loop [1, 5] (fun q i => i = .int .i64 0 ∧ q = .int .i64 k) (fun _ i => (intOf i).toNat)
    case atStart => exact ⟨rfl, rfl⟩
    case round =>
      obtain ⟨rfl, rfl⟩ := hrel
      go_wp2
      go_ret
      exact ⟨k, rfl, Nat.le_refl _, by omega, Out.refl _ _ _⟩
  · unfold maxLen at hm
    have hgm := hv g rfl
    have hgh := hr.le
    clear hg hss ht cur hv
    have h00 : w.ownsRow lo 52 8 (.slice (some ⟨g, 0, none⟩) l.length cap) l.length (([] : List RM).flatMap rmCells ++ (l.drop 0).flatMap rmCells) := h
    go_enter Try.func37, Try.ntmps37
    go_wp2
    go_loopw [1, 5] (fun q i wr => ∃ j r mj : Nat, j ≤ l.length ∧ i = .int .i64 j ∧ q = .int .i64 r ∧ k ≤ r ∧ r ≤ k + 4194308 * j ∧ m ≤ mj ∧ (∃ D : List RM, D.length = j ∧ wr.ownsRow lo 52 8 (.slice (some ⟨g, 0, none⟩) l.length cap) l.length (D.flatMap rmCells ++ (l.drop j).flatMap rmCells)) ∧ OwRs hi wr (l.drop j) mj ∧ Out lo hi w wr) (fun _ i _ => l.length - (intOf i).toNat)
    case atStart => exact ⟨0, k, m, Nat.zero_le _, rfl, rfl, Nat.le_refl _, by omega, Nat.le_refl _, ⟨[], rfl, h00⟩, hr, Out.refl _ _ _⟩
    case round =>
      clear h h00 hr
      obtain ⟨j, r, mj, hj, rfl, rfl, hr1, hr2, hmj, ⟨D, hD, hown⟩, hrs, hout⟩ := hrel
      by_cases hlt : j < l.length
      · go_wp2_with fail
        refine (markText_at _ r rfl _ (by omega) (by omega)).mono ?_
        rintro e w2 ⟨rfl, hb1⟩
        have hown2 := own_below hown hb1 (Nat.le_refl _)
        have hout2 := hout.trans (Out.of_below hb1 lo hi)
        have hrs2 := hrs.keep (Out.of_below hb1 0 0) (.inr (Nat.zero_le _))
        have hsm := hs _ (List.getElem_mem hlt)
        have hdr := List.drop_eq_getElem_cons hlt
        generalize l[j] = x at hdr hsm
        obtain ⟨L, hL⟩ : ∃ L, l.drop (j + 1) = L := ⟨_, rfl⟩
        rw [hL] at hdr
        rw [hdr] at hrs2 hown2
        have HL := Lib.hid hL
        clear hdr hL
        obtain ⟨mk, hmk, ho, hrest⟩ := hrs2
        obtain ⟨m1, m2, m3, q1, q2, q3, q4, z1, z2, z3, z4⟩ := ho
        have hmh := hrest.le
        obtain ⟨A1, c1, ev1⟩ := row_slice q1
        obtain ⟨A2, c2, ev2⟩ := row_slice q2
        obtain ⟨A3, c3, ev3⟩ := row_slice q3
        obtain ⟨A4, c4, ev4⟩ := row_slice q4
        rw [ev1] at q1
        rw [ev2] at q2
        rw [ev3] at q3
        rw [ev4] at q4
        obtain ⟨-, s1, s2, -, s3, s4⟩ := hsm
        have hDc : (D.flatMap rmCells).length = j * 8 := by rw [flatMap_len rmCells 8 rmCells_length, hD]
        have hown3 : w2.ownsRow lo 52 8 (.slice (some ⟨g, 0, none⟩) l.length cap) l.length (D.flatMap rmCells ++ [.string x.d.name, .int .i64 x.d.kind, .int .i64 x.d.size, .bool x.d.little, .slice A1 x.d.bytes.length c1, .slice A2 x.d.names.length c2, .slice A3 x.d.tags.length c3, .slice A4 x.d.kids.length c4] ++ L.flatMap rmCells) := by
          rw [List.append_assoc, ← ev1, ← ev2, ← ev3, ← ev4]
          exact hown2
        obtain ⟨y4, y5, y6, y7⟩ := rule_slices hown3 hDc hlt
        have hold : ∀ i, i < 8 → ∃ u, w2.cell? ⟨g, j * 8 + i, none⟩ = some u := by
          intro i hi
          rw [hown2.cellAt (j * 8 + i) (by omega)]
          exact ⟨_, List.getElem?_eq_getElem (by rw [hown2.1]; omega)⟩
        obtain ⟨u0', hu0⟩ := hold 0 (by omega)
        have hf0 := hown2.frozenAt (j * 8)
        obtain ⟨u1', hu1⟩ := hold 1 (by omega)
        have hf1 := hown2.frozenAt (j * 8 + 1)
        obtain ⟨u2', hu2⟩ := hold 2 (by omega)
        have hf2 := hown2.frozenAt (j * 8 + 2)
        obtain ⟨u3', hu3⟩ := hold 3 (by omega)
        have hf3 := hown2.frozenAt (j * 8 + 3)
        rw [Nat.add_zero] at hu0
        clear hold
        have hp := own_putCells [.string (mtext r), .int .i64 ((r : Int) + 1), .int .i64 ((r : Int) + 1 + 1), .bool (((r : Int) + 1 + 1 + 1) % 3 == 0)] _ (D.flatMap rmCells) ([.string x.d.name, .int .i64 x.d.kind, .int .i64 x.d.size, .bool x.d.little, .slice A1 x.d.bytes.length c1, .slice A2 x.d.names.length c2, .slice A3 x.d.tags.length c3, .slice A4 x.d.kids.length c4] ++ L.flatMap rmCells) (by simp) (by rw [← List.append_assoc]; exact hown3)
        rw [hDc] at hp
        have hp : (putCells w2 g (j * 8) [.string (mtext r), .int .i64 ((r : Int) + 1), .int .i64 ((r : Int) + 1 + 1), .bool (((r : Int) + 1 + 1 + 1) % 3 == 0)]).ownsRow lo 52 8 (.slice (some ⟨g, 0, none⟩) l.length cap) l.length (D.flatMap rmCells ++ [.string (mtext r), .int .i64 ((r : Int) + 1), .int .i64 ((r : Int) + 1 + 1), .bool (((r : Int) + 1 + 1 + 1) % 3 == 0), .slice A1 x.d.bytes.length c1, .slice A2 x.d.names.length c2, .slice A3 x.d.tags.length c3, .slice A4 x.d.kids.length c4] ++ L.flatMap rmCells) := by
          rw [List.append_assoc] at hp ⊢
          exact hp
        have op : Out lo m w2 (putCells w2 g (j * 8) [.string (mtext r), .int .i64 ((r : Int) + 1), .int .i64 ((r : Int) + 1 + 1), .bool (((r : Int) + 1 + 1 + 1) % 3 == 0)]) := Out.of_grown (grownBy_putCells (g := g) _ w2 (j * 8)) fun x hx => by cases hx; exact ⟨hb, hgm⟩
        have hout3 := hout2.trans (op.wide (Nat.le_refl _) hgh)
        have q1 := q1.keep op (by omega)
        have q2 := q2.keep op (by omega)
        have q3 := q3.keep op (by omega)
        have q4 := q4.keep op (by omega)
        have hrest := hrest.keep op (by omega)
        have hrow : Row lo m 52 8 l.length _ _ _ := ⟨hp, own_lt hgm _⟩
        have HH := Lib.hid (And.intro hrow (And.intro q1 (And.intro q2 (And.intro q3 (And.intro q4 (And.intro hrest hout3))))))
        clear hp hrow hown hown2 hown3 hout hout2 hout3 hrs hrest q1 q2 q3 q4 ev1 ev2 ev3 ev4 hb1 hs op
        go_wp2_with fail
        refine (cntB (k := r + 1 + 1 + 1 + 1) HH.out.2.1 (by omega) s1).mono ?_
        rintro e w3 ⟨r3, rfl, g3, l3, o3⟩
        obtain ⟨hrow, q1, q2, q3, q4, hrest, hout3⟩ := HH.out
        have hrow := hrow.keep o3 (.inl hmj)
        have q2 := q2.keep o3 (by omega)
        have q3 := q3.keep o3 (by omega)
        have q4 := q4.keep o3 (by omega)
        have hrest := hrest.keep o3 (by omega)
        have hout3 := hout3.trans (o3.wide (by omega) (by omega))
        obtain ⟨-, y5, y6, y7⟩ := rule_slices hrow.1 hDc hlt
        have HH := Lib.hid (And.intro hrow (And.intro q2 (And.intro q3 (And.intro q4 (And.intro hrest hout3)))))
        clear hrow q1 q2 q3 q4 hrest hout3 o3
        go_wp2_with fail
        refine (cntS HH.out.2.1 (by omega) (by omega) s2).mono ?_
        rintro e w4 ⟨r4, rfl, g4, l4, o4⟩
        obtain ⟨hrow, q2, q3, q4, hrest, hout3⟩ := HH.out
        have hrow := hrow.keep o4 (.inl (by omega))
        have q3 := q3.keep o4 (by omega)
        have q4 := q4.keep o4 (by omega)
        have hrest := hrest.keep o4 (by omega)
        have hout3 := hout3.trans (o4.wide (by omega) (by omega))
        obtain ⟨-, -, y6, y7⟩ := rule_slices hrow.1 hDc hlt
        have HH := Lib.hid (And.intro hrow (And.intro q3 (And.intro q4 (And.intro hrest hout3))))
        clear hrow q2 q3 q4 hrest hout3 o4
        go_wp2_with fail
        refine (cntI HH.out.2.1 (by omega) (by omega) s3).mono ?_
        rintro e w5 ⟨r5, rfl, g5, l5, o5⟩
        obtain ⟨hrow, q3, q4, hrest, hout3⟩ := HH.out
        have hrow := hrow.keep o5 (.inl (by omega))
        have q4 := q4.keep o5 (by omega)
        have hrest := hrest.keep o5 (by omega)
        have hout3 := hout3.trans (o5.wide (by omega) (by omega))
        obtain ⟨-, -, -, y7⟩ := rule_slices hrow.1 hDc hlt
        have HH := Lib.hid (And.intro hrow (And.intro q4 (And.intro hrest hout3)))
        clear hrow q3 q4 hrest hout3 o5
        go_wp2_with fail
        refine (cntI HH.out.2.1 (by omega) (by omega) s4).mono ?_
        rintro e w6 ⟨r6, rfl, g6, l6, o6⟩
        obtain ⟨hrow, q4, hrest, hout3⟩ := HH.out
        have hrow := hrow.keep o6 (.inl (by omega))
        have hrest := hrest.keep o6 (by omega)
        have hout3 := hout3.trans (o6.wide (by omega) (by omega))
        have hD2 : (D ++ [(⟨⟨mtext r, (r : Int) + 1, (r : Int) + 1 + 1, ((r : Int) + 1 + 1 + 1) % 3 == 0, [], [], [], []⟩, .slice A1 x.d.bytes.length c1, .slice A2 x.d.names.length c2, .slice A3 x.d.tags.length c3, .slice A4 x.d.kids.length c4⟩ : RM)]).length = j + 1 := by simp [hD]
        have hrow2 : w6.ownsRow lo 52 8 (.slice (some ⟨g, 0, none⟩) l.length cap) l.length ((D ++ [(⟨⟨mtext r, (r : Int) + 1, (r : Int) + 1 + 1, ((r : Int) + 1 + 1 + 1) % 3 == 0, [], [], [], []⟩, .slice A1 x.d.bytes.length c1, .slice A2 x.d.names.length c2, .slice A3 x.d.tags.length c3, .slice A4 x.d.kids.length c4⟩ : RM)]).flatMap rmCells ++ (l.drop (j + 1)).flatMap rmCells) := by
          rw [HL.out, List.flatMap_append]
          simpa [rmCells] using hrow.1
        rw [← HL.out] at hrest
        have HF := Lib.hid (And.intro hrow2 (And.intro hrest hout3))
        have HD := Lib.hid hD2
        clear hrow hrow2 hD2 q4 hrest hout3 o6 HH HL
        go_wp2
        go_roundw
        case rel => exact ⟨j + 1, r6, mk, by omega, by go_num, rfl, by omega, by omega, by omega, ⟨_, HD.out, HF.out.1⟩, HF.out.2.1, HF.out.2.2⟩
        case measure => simp [intOf]; omega
      · have hjn : j = l.length := by omega
        have H := Lib.hid hout
        clear hown hout hrs hs
        go_wp2
        go_ret
        exact ⟨r, rfl, hr1, by omega, H.out⟩
set_option maxRecDepth 100000 in
theorem markD_law {w : World} {v : Value} {D : List RuleD} {lo hi : Nat} (h : OwD D lo hi w v) (k : Int) (h1 : 1 ≤ k) (h2 : k ≤ 1099511627776) (hl : D.length ≤ 1048576) (sm : ∀ r ∈ D, r.small 1048576) :
    Calls Try.prog 16 #[.agg #[v], .int .i64 k] w fun e w' => ∃ r : Int, e = .returned (.int .i64 r) ∧ 0 ≤ r ∧ k ≤ r ∧ r ≤ k + 4398050705408 ∧ Out lo hi w w' := by
  obtain ⟨j, rfl⟩ := Int.eq_ofNat_of_zero_le (show 0 ≤ k by omega)
  obtain ⟨l, m, rfl, hrow, hlo, hrs⟩ := h
  have hm := hrs.le
  have hs : ∀ r ∈ l, r.d.small 1048576 := fun r hr => sm _ (List.mem_map_of_mem hr)
  rw [List.length_map] at hl
  obtain ⟨A, c, rfl⟩ := row_slice hrow
  go_enter Try.func16, Try.ntmps16
  have hb0 := Out.of_below (below_alloc1 w (.cells #[.slice A l.length c] 32)) lo hi
  have hb1 := Out.of_below (below_alloc1 w (.cells #[.slice A l.length c] 32)) 0 0
  go_wp2_with fail
  refine (markRuleS_any _ l j lo m hi _ (hrow.keep hb1 (.inr (Nat.zero_le _))).1 hrow.2 hlo (hrs.keep hb1 (.inr (Nat.zero_le _))) hs hl (by omega) (by omega)).mono ?_
  rintro e W1 ⟨r, rfl, g1, l1, o1⟩
  have HO := Lib.hid (hb0.trans o1)
  clear hrow hrs hb0 hb1 o1 hs sm
  go_wp2
  go_ret
  exact ⟨_, rfl, by omega, by omega, by omega, HO.out⟩
end Go.Proofs.Ytnbemdcdokhknaa
