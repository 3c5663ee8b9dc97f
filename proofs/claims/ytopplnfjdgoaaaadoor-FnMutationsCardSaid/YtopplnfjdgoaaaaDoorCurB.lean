/- The walk of l1Bytes. Condition: at most 1000 bytes. -/
import Derived.Test.YtopplnfjdgoaaaaDoorCur1
import Derived.Test.YtopplnfjdgoaaaaDoorMutApply
import Derived.WalkSpells
import Derived.WalkLawsBesides
namespace Go.Proofs.YtopplnfjdgoaaaaDoor
open Go.RowKit
set_option maxHeartbeats 1000000 in
set_option maxRecDepth 100000 in
theorem l1Bytes_any (b B : Nat) (v : Value) (l : List UInt8) (m : Int) (w : World) (h : SlB w B v l) (hB : B ≤ b) (hc : CurAt w b v l.length) (hm : 0 ≤ m) (hm2 : m ≤ 1000) :
    Calls Tryd.prog 24 #[.pointer (some ⟨b, 0, none⟩), .int .i64 m] w fun e w' => ∃ u xs, e = .returned u ∧ xs.length = m.toNat ∧ w'.ownsRow w.heap.size 5 1 u xs.length (u8s xs) ∧ Below b w w' := by
  obtain ⟨i0, hi, hz0, hz1, hz2⟩ := info_parts Tryd.info_u8
  obtain ⟨M, rfl⟩ := Int.eq_ofNat_of_zero_le hm
  have hbw := hc.lt
  have H := Lib.hid h
  have HC := Lib.hid hc
  clear h hc
  go_enter Tryd.func24, Tryd.ntmps24
  go_wp2
  go_loopw [5, 6] (fun o i wr => ∃ xs : List UInt8, xs.length ≤ M ∧ i = .int .i64 xs.length ∧ wr.ownsRow w.heap.size 5 1 o xs.length (u8s xs) ∧ Below b w wr ∧ CurAt wr b v l.length ∧ SlB wr B v l) (fun _ i _ => M - (intOf i).toNat)
  case atStart => exact ⟨[], Nat.zero_le _, rfl, own_empty _ _ _, (Below.refl _ _).alloc (by omega) _, HC.out.grown ((Below.refl _ _).alloc (by omega) _), H.out.below ((Below.refl _ _).alloc (by omega) _)⟩
  case round =>
    obtain ⟨xs, hk, rfl, hown, hb, hcu, hsl⟩ := hrel
    by_cases hlt : xs.length < M
    · have hlt2 : (xs.length : Int) < M := by omega
      have hsz := hb.size
      have hOW := Lib.hid hown
      have hBB := Lib.hid hb
      have hCU := Lib.hid hcu
      have hSL := Lib.hid hsl
      have hbr := hcu.lt
      clear hown hb hcu hsl
      go_wp2_with (first | (go_at_call 34; refine (l1Byte_any b B v l _ hSL.out hB hCU.out).mono ?_; rintro e w1 ⟨⟨x, rfl, hx0, hx1⟩, hs, hcu⟩; have hS := Lib.hid (own_step hOW.out hs (by omega)); have hC1 := Lib.hid hcu; have hL1 := Lib.hid (hSL.out.step hs hB hbr); have hB1 := Lib.hid (below_cstep hBB.out hs (by omega) (Nat.le_refl _)); have hsz1 := Lib.hid hs.2; clear hs hcu) | (at_builtin; refine wpList_app _ rfl (.tmp 13) (.tmp 17) 35 rfl w.heap.size 5 i0 (.int .u8 0) 1 1 Tryd.underlying35 hi hz0 hz1 hz2 rfl (by decide) _ xs.length _ rfl (own_below hS.out ((Below.refl _ _).alloc (Nat.le_refl _) _) (Nat.le_refl _)) _ 1 _ (u8s [UInt8.ofNat x.toNat]) rfl (slb_one hx0 hx1 rfl) (u8s_one _) (by omega) (by unfold maxLen; omega) (by have := hsz1.out; simp; omega) ?_; intro v2 w2 own2 hg2 _))
      have ha : Below w1.heap.size w1 (w1.alloc (.cells #[.int .u8 x] 5)) := (Below.refl _ _).alloc (Nat.le_refl _) _
      have ho2 := own_below hS.out ha (Nat.le_refl _)
      have hb2 : Below (b + 1) w1 w2 := below_app hg2 ho2 (by omega) (by have := hsz1.out; simp; omega) (ha.mono (by have := hsz1.out; omega))
      rw [← u8s_append] at own2
      have H2 := Lib.hid (And.intro own2 (And.intro (hB1.out.trans (hb2.mono (by omega))) (And.intro (hC1.out.grown hb2) (hL1.out.below (hb2.mono (by omega))))))
      clear own2 hg2 ho2 hb2 ha hS hC1 hL1 hB1 hOW hBB hCU hSL
      go_roundw
      case rel => exact ⟨xs ++ [UInt8.ofNat x.toNat], by simp; omega, by simp, by simpa using H2.out.1, H2.out.2.1, H2.out.2.2.1, H2.out.2.2.2⟩
      case measure => simp [intOf]; omega
    · have hM : xs.length = M := by omega
      have H2 := Lib.hid (And.intro hown hb)
      clear hown hb hcu hsl
      go_wp2
      go_ret
      exact ⟨_, xs, rfl, by omega, H2.out.1, H2.out.2⟩
end Go.Proofs.YtopplnfjdgoaaaaDoor
