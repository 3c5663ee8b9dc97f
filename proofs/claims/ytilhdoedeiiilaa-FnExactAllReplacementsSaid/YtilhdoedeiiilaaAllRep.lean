/- FnExactAllReplacements: the walks of spec and impl and the law's. Every []byte. -/
import Derived.Test.YtilhdoedeiiilaaByte
namespace Go.Proofs.Ytilhdoedeiiilaa
open Go.RowKit
theorem specAllReplacements_any (v : Value) (l : List UInt8) (B : Nat) (w : World) (h : SlB w B v l) (hl : l.length ≤ 1048576) :
    Calls Try.prog 17 #[v] w fun e w' => e = .returned (.int .i64 (255 * (l.length : Int))) ∧ w = w' := by
  obtain ⟨A, c, rfl, hc, hm, _⟩ := h.open_
  go_enter Try.func17, Try.ntmps17
  go_wp2
  go_ret
  exact ⟨rfl, rfl⟩
theorem implAllReplacements_any (v : Value) (l : List UInt8) (B : Nat) (w : World) (h : SlB w B v l) (hl : l.length ≤ 1048576) :
    Calls Try.prog 19 #[v] w fun e w' => e = .returned (.int .i64 (255 * (l.length : Int))) ∧ w = w' := by
  obtain ⟨A, c, rfl, hc, hm, _⟩ := h.open_
  go_enter Try.func19, Try.ntmps19
  go_wp2
  go_ret
  exact ⟨rfl, rfl⟩
end Go.Proofs.Ytilhdoedeiiilaa
namespace Go.Proofs.Ytilhdoedeiiilaa.FnExactAllReplacements
open Go.RowKit
set_option maxHeartbeats 400000 in
theorem walk (v : Value) (l : List UInt8) (w : World) (h : SlB w w.heap.size v l) :
    Calls Try.prog 4 #[v] w fun e w' => e = .returned (.bool true) ∧ Below w.heap.size w w' := by
  have h' := h
  obtain ⟨A, c, rfl, hc, hm, _⟩ := h'.open_
  unfold maxLen at hm
  by_cases hbig : 1048576 < (l.length : Int)
  · clear h h'
    go_enter Try.func4, Try.ntmps4
    go_wp2
    go_ret
    exact ⟨rfl, Below.refl _ _⟩
  · have hl : l.length ≤ 1048576 := by omega
    go_enter Try.func4, Try.ntmps4
    go_wp2_with fail
    refine (toByteS_any _ l _ _ h (Nat.le_refl _) (by omega)).mono ?_
    rintro e w1 ⟨v1, rfl, own1, bel1⟩
    have h1 := h.below bel1
    go_wp2_with fail
    refine (specAllReplacements_any v1 l _ _ (own_u8 own1) hl).mono ?_
    rintro e w' ⟨rfl, rfl⟩
    go_wp2_with fail
    refine (toByteS_any _ l _ _ h1 bel1.size (by omega)).mono ?_
    rintro e w2 ⟨v2, rfl, own2, bel2⟩
    have bel2' := below_step bel2 bel1
    have h2 := h1.below (bel2.mono bel1.size)
    go_wp2_with fail
    refine (implAllReplacements_any v2 l _ _ (own_u8 own2) hl).mono ?_
    rintro e w' ⟨rfl, rfl⟩
    go_wp2_with fail
    refine (toByteS_any _ l _ _ h2 bel2'.size (by omega)).mono ?_
    rintro e w3 ⟨v3, rfl, own3, bel3⟩
    have bel3' := below_step bel3 bel2'
    go_wp2_with fail
    refine (eqByteS_any v2 v3 l l _ _ _ (own_u8 (own_below own2 bel3 (Nat.le_refl _))) (own_u8 own3)).mono ?_
    intro e w' hq
    obtain ⟨rfl, bel4⟩ := hq.below
    have bel4' := below_step bel4 bel3'
    have HB := Lib.hid bel4'
    rw [beq_self_eq_true]
    clear bel4 bel4' bel3 bel3' bel2 bel2' bel1 own1 own2 own3 h h1 h2 h' hq
    go_wp2
    go_ret
    exact ⟨rfl, HB.out⟩
end Go.Proofs.Ytilhdoedeiiilaa.FnExactAllReplacements
