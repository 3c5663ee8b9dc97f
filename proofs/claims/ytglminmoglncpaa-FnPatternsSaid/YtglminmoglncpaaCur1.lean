/- The cursor's block: what it keeps. Conditions: as Cur's. -/
import Derived.Test.YtglminmoglncpaaCur
import Derived.WalkSpells
import Derived.WalkLawsBesides
namespace Go.Proofs.Ytglminmoglncpaa
open Go.RowKit
theorem own_step {b base : Nat} {w w' : World} {e : TypeId} {size : Nat} {v : Value} {n : Nat} {xs : List Value} (h : w.ownsRow base e size v n xs) (hs : CurStep b w w') (hb : b < base) : w'.ownsRow base e size v n xs := by
  refine ⟨h.1, ?_⟩
  rcases h.2 with hn | ⟨g, cap, cur, rfl, hbb, hg, rest⟩
  · exact .inl hn
  · exact .inr ⟨g, cap, cur, rfl, hbb, by rw [hs.1.block g (Array.getElem?_eq_some_iff.1 hg).1 (fun e => by injection e; omega)]; exact hg, rest⟩
theorem below_cstep {b B : Nat} {a w w' : World} (h : Below B a w) (hs : CurStep b w w') (hB : B ≤ w.heap.size) (hb : B ≤ b) : Below B a w' :=
  h.grown hs.1 hB (fun k e => by injection e; omega)
theorem CurAt.grown {w w' : World} {b n : Nat} {v : Value} (h : CurAt w b v n) (hb : Below (b + 1) w w') : CurAt w' b v n := by
  obtain ⟨c0, ⟨i, hi, c1⟩, ⟨hh, c2⟩, f1, f2⟩ := h
  exact ⟨(hb.cell (p := ⟨b, 0, none⟩) (Nat.lt_succ_self b)).trans c0, ⟨i, hi, (hb.cell (p := ⟨b, 1, none⟩) (Nat.lt_succ_self b)).trans c1⟩, ⟨hh, (hb.cell (p := ⟨b, 2, none⟩) (Nat.lt_succ_self b)).trans c2⟩,
    (hb.frozen (p := ⟨b, 1, none⟩) (Nat.lt_succ_self b)).trans f1, (hb.frozen (p := ⟨b, 2, none⟩) (Nat.lt_succ_self b)).trans f2⟩
set_option maxHeartbeats 400000 in
theorem big_any (v : Value) (l : List UInt8) (B : Nat) (w : World) (h : SlB w B v l) :
    Calls Try.prog 17 #[v] w fun e w' => e = .returned (.bool (decide (1048576 < (l.length : Int)))) ∧ w = w' := by
  obtain ⟨A, c, rfl, hc, hm, hcell⟩ := h.open_
  unfold maxLen at hm
  clear h hcell
  go_enter Try.func17, Try.ntmps17
  go_wp2
  go_ret
  exact ⟨rfl, rfl⟩
theorem cur_new {w : World} {v : Value} {x : Int} {t : TypeId} {n : Nat} : CurAt (w.alloc (.cells #[v, .int .i64 0, .int .i64 x] t)) w.heap.size v n :=
  ⟨by simp [go_sem], ⟨0, Nat.zero_le _, by simp [go_sem]⟩, ⟨x, by simp [go_sem]⟩, by simp [go_sem], by simp [go_sem]⟩
end Go.Proofs.Ytglminmoglncpaa
