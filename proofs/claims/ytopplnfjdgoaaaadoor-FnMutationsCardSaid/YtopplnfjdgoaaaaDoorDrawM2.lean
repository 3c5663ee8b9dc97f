/- The draw of bytes and a mutation: DrawApplyMutation. Condition: the code reads as bytes, at most 2^20. -/
import Derived.Test.YtopplnfjdgoaaaaDoorDrawM
import Derived.WalkSpells
import Derived.WalkLawsBesides
namespace Go.Proofs.YtopplnfjdgoaaaaDoor
open Go.RowKit
set_option maxHeartbeats 1000000 in
set_option maxRecDepth 100000 in
theorem l1Bytes2_any (b B : Nat) (v : Value) (l : List UInt8) (m : Int) (w : World) (h : SlB w B v l) (hB : B ≤ b) (hc : CurAt w b v l.length) (hm : 0 ≤ m) (hm2 : m ≤ 1000) :
    Calls Tryd.prog 24 #[.pointer (some ⟨b, 0, none⟩), .int .i64 m] w fun e w' => ∃ u xs, e = .returned u ∧ xs.length = m.toNat ∧ w'.ownsRow w.heap.size 5 1 u xs.length (u8s xs) ∧ Below b w w' ∧ CurAt w' b v l.length ∧ SlB w' B v l ∧ w.heap.size ≤ w'.heap.size := by
  obtain ⟨i0, hi, hz0, hz1, hz2⟩ := info_parts Tryd.info_u8
  obtain ⟨M, rfl⟩ := Int.eq_ofNat_of_zero_le hm
  have hbw := hc.lt
  have H := Lib.hid h
  have HC := Lib.hid hc
  clear h hc
  go_enter Tryd.func24, Tryd.ntmps24
  go_wp2
  go_loopw [5, 6] (fun o i wr => ∃ xs : List UInt8, xs.length ≤ M ∧ i = .int .i64 xs.length ∧ wr.ownsRow w.heap.size 5 1 o xs.length (u8s xs) ∧ Below b w wr ∧ CurAt wr b v l.length ∧ SlB wr B v l) (fun _ i _ => M - (intOf i).toNat)
  case atStart => exact ⟨[], Nat.zero_le _, rfl, own_empty _ _ _, (Below.refl _ _).alloc (by omega) _, HC.out.grown ((Below.refl _ _).alloc (by omega) _), H.out.below ((Below.refl _ _).alloc (by omega) _)⟩
  case round =>
    obtain ⟨xs, hk, rfl, hown, hb, hcu, hsl⟩ := hrel
    by_cases hlt : xs.length < M
    · have hlt2 : (xs.length : Int) < M := by omega
      have hsz := hb.size
      have hOW := Lib.hid hown
      have hBB := Lib.hid hb
      have hCU := Lib.hid hcu
      have hSL := Lib.hid hsl
      have hbr := hcu.lt
      clear hown hb hcu hsl
      go_wp2_with (first | (go_at_call 34; refine (l1Byte_any b B v l _ hSL.out hB hCU.out).mono ?_; rintro e w1 ⟨⟨x, rfl, hx0, hx1⟩, hs, hcu⟩; have hS := Lib.hid (own_step hOW.out hs (by omega)); have hC1 := Lib.hid hcu; have hL1 := Lib.hid (hSL.out.step hs hB hbr); have hB1 := Lib.hid (below_cstep hBB.out hs (by omega) (Nat.le_refl _)); have hsz1 := Lib.hid hs.2; clear hs hcu) | (at_builtin; refine wpList_app _ rfl (.tmp 13) (.tmp 17) 35 rfl w.heap.size 5 i0 (.int .u8 0) 1 1 Tryd.underlying35 hi hz0 hz1 hz2 rfl (by decide) _ xs.length _ rfl (own_below hS.out ((Below.refl _ _).alloc (Nat.le_refl _) _) (Nat.le_refl _)) _ 1 _ (u8s [UInt8.ofNat x.toNat]) rfl (slb_one hx0 hx1 rfl) (u8s_one _) (by omega) (by unfold maxLen; omega) (by have := hsz1.out; simp; omega) ?_; intro v2 w2 own2 hg2 _))
      have ha : Below w1.heap.size w1 (w1.alloc (.cells #[.int .u8 x] 5)) := (Below.refl _ _).alloc (Nat.le_refl _) _
      have ho2 := own_below hS.out ha (Nat.le_refl _)
      have hb2 : Below (b + 1) w1 w2 := below_app hg2 ho2 (by omega) (by have := hsz1.out; simp; omega) (ha.mono (by have := hsz1.out; omega))
      rw [← u8s_append] at own2
      have H2 := Lib.hid (And.intro own2 (And.intro (hB1.out.trans (hb2.mono (by omega))) (And.intro (hC1.out.grown hb2) (hL1.out.below (hb2.mono (by omega))))))
      clear own2 hg2 ho2 hb2 ha hS hC1 hL1 hB1 hOW hBB hCU hSL
      go_roundw
      case rel => exact ⟨xs ++ [UInt8.ofNat x.toNat], by simp; omega, by simp, by simpa using H2.out.1, H2.out.2.1, H2.out.2.2.1, H2.out.2.2.2⟩
      case measure => simp [intOf]; omega
    · have hM : xs.length = M := by omega
      have H2 := Lib.hid (And.intro hown (And.intro hb (And.intro hcu (And.intro hsl hb.size))))
      clear hown hb hcu hsl
      go_wp2
      go_ret
      exact ⟨_, xs, rfl, by omega, H2.out.1, H2.out.2⟩
theorem M3.below {g B : Nat} {T : TypeId} {a p z : Int} {W W' : World} (h : M3 g T a p z W) (hb : Below B W W') (hg : g < B) : M3 g T a p z W' := (hb.block g hg).trans h
theorem own_goM {b base : Nat} {w w' : World} {e : TypeId} {size : Nat} {v : Value} {n : Nat} {xs : List Value} (h : w.ownsRow base e size v n xs) (hs : GoB b w w') (hb : b < base) : w'.ownsRow base e size v n xs := by
  refine ⟨h.1, ?_⟩
  rcases h.2 with hn | ⟨g, cap, cur, rfl, hbb, hg, rest⟩
  · exact .inl hn
  · exact .inr ⟨g, cap, cur, rfl, hbb, by rw [hs.block g (Array.getElem?_eq_some_iff.1 hg).1 (fun e => by injection e; omega)]; exact hg, rest⟩
theorem own_rowM {base g o : Nat} {w : World} {e : TypeId} {size : Nat} {v : Value} {n : Nat} {xs : List Value} (h : w.ownsRow base e size v n xs) (hb : g < base) (u : Value) : (w.setCell ⟨g, o, none⟩ u).ownsRow base e size v n xs := by
  refine h.kept (grownBy_setCell w g o u) ?_
  rcases h.2 with ⟨rfl, _⟩ | ⟨g', cap, cur, rfl, hbb, _⟩
  · exact .inl rfl
  · refine .inr fun e => ?_
    have : g' = g := by simpa [Value.ownBlock] using e
    omega
set_option maxHeartbeats 1000000 in
theorem drawApply_any (v : Value) (l : List UInt8) (w : World) (h : SlB w w.heap.size v l) (hl : l.length ≤ 1048576) :
    Calls Tryd.prog 14 #[v] w fun e w' => ∃ u xs m, e = .returned (.tuple #[u, mutV m]) ∧ xs.length ≤ 5 ∧ SlB w' w'.heap.size u xs ∧ m.ok ∧ Below w.heap.size w w' := by
  go_enter Tryd.func14, Tryd.ntmps14
  go_wp2_with fail
  have hW1 : Below w.heap.size w (w.alloc (.cells #[.int .i64 0, .int .i64 0, .int .i64 0] 25)) := (Below.refl _ _).alloc (Nat.le_refl _) _
  have r1 := M3.new w 25 0 0 0
  have hz1 : (w.alloc (.cells #[.int .i64 0, .int .i64 0, .int .i64 0] 25)).heap.size = w.heap.size + 1 := by simp
  have h1 := h.below hW1
  generalize w.alloc (.cells #[.int .i64 0, .int .i64 0, .int .i64 0] 25) = W1 at *
  have hle : w.heap.size + 1 ≤ W1.heap.size := by omega
  have hlt1 : w.heap.size < W1.heap.size := by omega
  have HS1 := Lib.hid (h1.more (show w.heap.size ≤ W1.heap.size by omega))
  have HW1 := Lib.hid hW1
  have R1 := Lib.hid r1
  clear h h1 hW1 r1 hz1
  refine (l1New_any v l _ W1 HS1.out hl).mono ?_
  rintro e w2 ⟨rfl, x, rfl⟩
  have ha : Below W1.heap.size W1 (W1.alloc (.cells #[v, .int .i64 0, .int .i64 x] 59)) := (Below.refl _ _).alloc (Nat.le_refl _) _
  have hc : CurW W1.heap.size v l (W1.alloc (.cells #[v, .int .i64 0, .int .i64 x] 59)) := ⟨HS1.out.below ha, cur_new⟩
  have r2 := R1.out.alloc (.cells #[v, .int .i64 0, .int .i64 x] 59)
  generalize W1.alloc (.cells #[v, .int .i64 0, .int .i64 x] 59) = W at ha hc r2
  have HA := Lib.hid ha
  have HC := Lib.hid hc
  have R2 := Lib.hid r2
  clear ha hc r2 R1 HS1
  go_wp2_with fail
  refine (below_any _ 0 v l 6 _ HC.out (by omega) (by omega)).mono ?_
  rintro e w3 ⟨⟨m, rfl, hm0, hm1⟩, hs3, hz3, hc3⟩
  have HB3 := Lib.hid (hs3.below HA.out HA.out.size (Nat.le_refl _))
  have R3 := Lib.hid (R2.out.go hs3 (by omega))
  have HC3 := Lib.hid hc3
  clear hs3 hz3 hc3 HC R2 HA
  go_wp2_with fail
  refine (l1Bytes2_any _ _ v l m w3 HC3.out.sl (Nat.le_refl _) HC3.out.at_ hm0 (by omega)).mono ?_
  rintro e w4 ⟨u, xs, rfl, hlen, hown, hb4, hat, hsl, hz4⟩
  have hxs : xs.length ≤ 5 := by omega
  clear hlen
  have HB4 := Lib.hid (HB3.out.trans hb4)
  have R4 := Lib.hid (R3.out.below hb4 hlt1)
  have HC4 := Lib.hid (CurW.mk hsl hat)
  have hbw := HC3.out.lt
  have HO4 := Lib.hid hown
  clear hown hb4 hat hsl HC3 R3 HB3
  obtain ⟨A, c, rfl⟩ : ∃ A c, u = .slice A xs.length c := by
    rcases HO4.out.2 with ⟨rfl, h0⟩ | ⟨g, cap, cur, rfl, _⟩
    · exact ⟨none, 0, by rw [h0]⟩
    · exact ⟨_, _, rfl⟩
  go_wp2_with fail
  refine (l26Mutation_any _ v l xs.length w4 HC4.out (by omega)).mono ?_
  rintro e w5 ⟨⟨k, p, y⟩, rfl, hmok, hs5, hc5⟩
  have HB5 := Lib.hid (hs5.below HB4.out (by omega) (Nat.le_refl _))
  have hO5 := own_goM HO4.out hs5 hbw
  have r5 := R4.out.go hs5 (by omega)
  have hsz5 := hs5.size
  have d0 := r5.c0
  have d1 := r5.c1
  have d2 := r5.c2
  have g0 := r5.f 0
  have g1 := r5.f 1
  have g2 := r5.f 2
  have HM := Lib.hid hmok
  have HO5 := Lib.hid hO5
  unfold mutV
  clear hmok hs5 hc5 hO5 HC4 R4 HB4 HO4
  go_wp2
  have R := r5.set k p y
  have hO6 := own_rowM (own_rowM (own_rowM HO5.out (g := w.heap.size) (o := 0) (by omega) (.int .i64 k)) (g := w.heap.size) (o := 1) (by omega) (.int .i64 p)) (g := w.heap.size) (o := 2) (by omega) (.int .i64 y)
  have G : Below w.heap.size w (((w5.setCell ⟨w.heap.size, 0, none⟩ (.int .i64 k)).setCell ⟨w.heap.size, 1, none⟩ (.int .i64 p)).setCell ⟨w.heap.size, 2, none⟩ (.int .i64 y)) :=
    (((HW1.out.trans (HB5.out.mono (by omega))).setCell (p := ⟨w.heap.size, 0, none⟩) (Nat.le_refl _) _).setCell (p := ⟨w.heap.size, 1, none⟩) (Nat.le_refl _) _).setCell (p := ⟨w.heap.size, 2, none⟩) (Nat.le_refl _) _
  generalize hW9 : (((w5.setCell ⟨w.heap.size, 0, none⟩ (.int .i64 k)).setCell ⟨w.heap.size, 1, none⟩ (.int .i64 p)).setCell ⟨w.heap.size, 2, none⟩ (.int .i64 y)) = W9 at R G hO6 ⊢
  have q0 := R.c0
  have q1 := R.c1
  have q2 := R.c2
  refine bodyPost_ret (v := .tuple #[.slice A xs.length c, .agg #[.int .i64 k, .int .i64 p, .int .i64 y]]) (by simp [results, Tryd.f14, go_sem, q0, q1, q2]) rfl ?_
  exact ⟨_, xs, ⟨k, p, y⟩, rfl, hxs, own_u8 hO6, HM.out, G⟩
end Go.Proofs.YtopplnfjdgoaaaaDoor
