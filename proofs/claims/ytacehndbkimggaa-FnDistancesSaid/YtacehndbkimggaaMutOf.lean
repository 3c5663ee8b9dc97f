/- The walks of MutationOf, spec and impl. Condition: the numbers are ints. -/
import Derived.Test.YtacehndbkimggaaDraw
import Derived.Test.YtacehndbkimggaaMut
import Derived.WalkSpells
import Derived.WalkLawsBesides
import Derived.Deep.RegionHeld3
namespace Go.Proofs.Ytacehndbkimggaa
open Go.RowKit
/-- The mutation that is drawn. -/
def mOf (n s : Int) : Muta :=
  if 0 ≤ n ∧ n ≤ 400 then
    (if n = 0 then ⟨2, nextNo (nextNo s) % (n + 1), nextNo (nextNo (nextNo s)) % 256⟩
     else if nextNo s % 3 = 0 then ⟨1, nextNo (nextNo s) % n, nextNo (nextNo (nextNo s)) % 256⟩
     else if nextNo s % 3 = 1 then ⟨2, nextNo (nextNo s) % (n + 1), nextNo (nextNo (nextNo s)) % 256⟩
     else ⟨3, nextNo (nextNo s) % n, 0⟩)
  else ⟨0, 0, 0⟩
def MutIs (m : Muta) (w : World) (e : Ending) (w' : World) : Prop := e = .returned (.agg #[.int .i64 m.kind, .int .i64 m.pos, .int .i64 m.byte]) ∧ Below w.heap.size w w'
set_option maxHeartbeats 2000000 in
set_option maxRecDepth 100000 in
theorem specMutOf_any (n s : Int) (w : World) (hn : -9223372036854775808 ≤ n ∧ n ≤ 9223372036854775807) :
    Calls Try.prog 20 #[.int .i64 n, .int .i64 s] w (MutIs (mOf n s) w) := by
  have b1 := nextNo_bd s
  have b2 := nextNo_bd (nextNo s)
  have b3 := nextNo_bd (nextNo (nextNo s))
  obtain ⟨hn0, hn1⟩ := hn
  by_cases hin : 0 ≤ n ∧ n ≤ 400
  · have hb := inB_true hin.1 hin.2
    obtain ⟨h0, h4⟩ := hin
    by_cases hz : n = 0
    · subst hz
      have HM := Lib.hid (show mOf 0 s = ⟨2, nextNo (nextNo s) % (0 + 1), nextNo (nextNo (nextNo s)) % 256⟩ by unfold mOf; rw [if_pos (by omega), if_pos rfl])
      
      go_enter Try.func20, Try.ntmps20
      go_wp2_with (go_at_call 33; refine (l1In_any _ _ _ _).mono ?_; rintro e w9 ⟨rfl, rfl⟩)
      refine (l25Draw_any _ _ s _ (by simp [go_sem]) (by simp [go_sem])).mono ?_
      rintro e w9 ⟨rfl, rfl⟩
      go_wp2_with fail
      refine (l25Draw_any _ _ (nextNo s) _ (by simp [go_sem]) (by simp [go_sem])).mono ?_
      rintro e w9 ⟨rfl, rfl⟩
      go_wp2_with fail
      refine (l25Draw_any _ _ (nextNo (nextNo s)) _ (by simp [go_sem]) (by simp [go_sem])).mono ?_
      rintro e w9 ⟨rfl, rfl⟩
      go_wp2_with fail
      refine bodyPost_ret (v := .agg #[.int .i64 2, .int .i64 (nextNo (nextNo s) % (0 + 1)), .int .i64 (nextNo (nextNo (nextNo s)) % 256)]) (by simp [results, Try.results20, go_sem]) rfl ⟨by rw [HM.out], ?_⟩
      exact (by repeat (first | exact Below.refl _ _ | assumption | refine Below.alloc ?_ (by first | omega | (simp <;> omega)) _ | refine Below.setCell ?_ (by first | omega | (simp <;> omega)) _ | refine Below.drew ?_ | refine below_drewN ?_ _))
    · have hzb : (n == 0) = false := beq_eq_false_iff_ne.2 hz
      have hpos : 1 ≤ n := by omega
      by_cases k1 : nextNo s % 3 = 0
      · have HK := Lib.hid k1
        have HM := Lib.hid (show mOf n s = ⟨1, nextNo (nextNo s) % n, nextNo (nextNo (nextNo s)) % 256⟩ by unfold mOf; rw [if_pos ⟨h0, h4⟩, if_neg hz, if_pos k1])
        clear hz
        
        go_enter Try.func20, Try.ntmps20
        go_wp2_with (go_at_call 33; refine (l1In_any _ _ _ _).mono ?_; rintro e w9 ⟨rfl, rfl⟩)
        refine (l25Draw_any _ _ s _ (by simp [go_sem]) (by simp [go_sem])).mono ?_
        rintro e w9 ⟨rfl, rfl⟩
        go_wp2_with fail
        refine (l25Draw_any _ _ (nextNo s) _ (by simp [go_sem]) (by simp [go_sem])).mono ?_
        rintro e w9 ⟨rfl, rfl⟩
        go_wp2_with fail
        refine (l25Draw_any _ _ (nextNo (nextNo s)) _ (by simp [go_sem]) (by simp [go_sem])).mono ?_
        rintro e w9 ⟨rfl, rfl⟩
        go_wp2_with fail
        refine bodyPost_ret (v := .agg #[.int .i64 1, .int .i64 (nextNo (nextNo s) % n), .int .i64 (nextNo (nextNo (nextNo s)) % 256)]) (by simp [results, Try.results20, go_sem]) rfl ⟨by rw [HM.out], ?_⟩
        exact (by repeat (first | exact Below.refl _ _ | assumption | refine Below.alloc ?_ (by first | omega | (simp <;> omega)) _ | refine Below.setCell ?_ (by first | omega | (simp <;> omega)) _ | refine Below.drew ?_ | refine below_drewN ?_ _))
      · by_cases k2 : nextNo s % 3 = 1
        · have HK := Lib.hid k2
          have HM := Lib.hid (show mOf n s = ⟨2, nextNo (nextNo s) % (n + 1), nextNo (nextNo (nextNo s)) % 256⟩ by unfold mOf; rw [if_pos ⟨h0, h4⟩, if_neg hz, if_neg k1, if_pos k2])
          clear hz k1
          
          go_enter Try.func20, Try.ntmps20
          go_wp2_with (go_at_call 33; refine (l1In_any _ _ _ _).mono ?_; rintro e w9 ⟨rfl, rfl⟩)
          refine (l25Draw_any _ _ s _ (by simp [go_sem]) (by simp [go_sem])).mono ?_
          rintro e w9 ⟨rfl, rfl⟩
          go_wp2_with fail
          refine (l25Draw_any _ _ (nextNo s) _ (by simp [go_sem]) (by simp [go_sem])).mono ?_
          rintro e w9 ⟨rfl, rfl⟩
          go_wp2_with fail
          refine (l25Draw_any _ _ (nextNo (nextNo s)) _ (by simp [go_sem]) (by simp [go_sem])).mono ?_
          rintro e w9 ⟨rfl, rfl⟩
          go_wp2_with fail
          refine bodyPost_ret (v := .agg #[.int .i64 2, .int .i64 (nextNo (nextNo s) % (n + 1)), .int .i64 (nextNo (nextNo (nextNo s)) % 256)]) (by simp [results, Try.results20, go_sem]) rfl ⟨by rw [HM.out], ?_⟩
          exact (by repeat (first | exact Below.refl _ _ | assumption | refine Below.alloc ?_ (by first | omega | (simp <;> omega)) _ | refine Below.setCell ?_ (by first | omega | (simp <;> omega)) _ | refine Below.drew ?_ | refine below_drewN ?_ _))
        · have k3 : nextNo s % 3 = 2 := by omega
          have HM := Lib.hid (show mOf n s = ⟨3, nextNo (nextNo s) % n, 0⟩ by unfold mOf; rw [if_pos ⟨h0, h4⟩, if_neg hz, if_neg k1, if_neg k2])
          clear hz k1 k2
          
          go_enter Try.func20, Try.ntmps20
          go_wp2_with (go_at_call 33; refine (l1In_any _ _ _ _).mono ?_; rintro e w9 ⟨rfl, rfl⟩)
          refine (l25Draw_any _ _ s _ (by simp [go_sem]) (by simp [go_sem])).mono ?_
          rintro e w9 ⟨rfl, rfl⟩
          go_wp2_with fail
          refine (l25Draw_any _ _ (nextNo s) _ (by simp [go_sem]) (by simp [go_sem])).mono ?_
          rintro e w9 ⟨rfl, rfl⟩
          go_wp2_with fail
          refine (l25Draw_any _ _ (nextNo (nextNo s)) _ (by simp [go_sem]) (by simp [go_sem])).mono ?_
          rintro e w9 ⟨rfl, rfl⟩
          go_wp2_with fail
          refine bodyPost_ret (v := .agg #[.int .i64 3, .int .i64 (nextNo (nextNo s) % n), .int .i64 0]) (by simp [results, Try.results20, go_sem]) rfl ⟨by rw [HM.out], ?_⟩
          exact (by repeat (first | exact Below.refl _ _ | assumption | refine Below.alloc ?_ (by first | omega | (simp <;> omega)) _ | refine Below.setCell ?_ (by first | omega | (simp <;> omega)) _ | refine Below.drew ?_ | refine below_drewN ?_ _))
  · have hb := inB_false (x := n) (a := 0) (b := 400) (by omega)
    have HM := Lib.hid (show mOf n s = ⟨0, 0, 0⟩ by unfold mOf; rw [if_neg hin])
    clear hin
    
    go_enter Try.func20, Try.ntmps20
    go_wp2_with (go_at_call 33; refine (l1In_any _ _ _ _).mono ?_; rintro e w9 ⟨rfl, rfl⟩)
    refine bodyPost_ret (v := .agg #[.int .i64 0, .int .i64 0, .int .i64 0]) (by simp [results, Try.results20, go_sem]) rfl ⟨by rw [HM.out], ?_⟩
    exact (by repeat (first | exact Below.refl _ _ | assumption | refine Below.alloc ?_ (by first | omega | (simp <;> omega)) _ | refine Below.setCell ?_ (by first | omega | (simp <;> omega)) _ | refine Below.drew ?_ | refine below_drewN ?_ _))
set_option maxHeartbeats 2000000 in
set_option maxRecDepth 100000 in
theorem implMutOf_any (n s : Int) (w : World) (hn : -9223372036854775808 ≤ n ∧ n ≤ 9223372036854775807) :
    Calls Try.prog 21 #[.int .i64 n, .int .i64 s] w (MutIs (mOf n s) w) := by
  have b1 := nextNo_bd s
  have b2 := nextNo_bd (nextNo s)
  have b3 := nextNo_bd (nextNo (nextNo s))
  obtain ⟨hn0, hn1⟩ := hn
  by_cases hin : 0 ≤ n ∧ n ≤ 400
  · have hb := inB_true hin.1 hin.2
    obtain ⟨h0, h4⟩ := hin
    by_cases hz : n = 0
    · subst hz
      have HM := Lib.hid (show mOf 0 s = ⟨2, nextNo (nextNo s) % (0 + 1), nextNo (nextNo (nextNo s)) % 256⟩ by unfold mOf; rw [if_pos (by omega), if_pos rfl])
      
      go_enter Try.func21, Try.ntmps21
      go_wp2_with (first | (go_at_call 35; refine (InRange_any _ _ _ _).mono ?_; rintro e w9 ⟨rfl, rfl⟩) | (go_at_call 39; refine (numbersFrom_any _ _).mono ?_; rintro e w9 ⟨rfl, rfl⟩))
      refine (draw1_any _ s _ _ (by omega) (by omega) (by simp [go_sem]) (by simp [go_sem])).mono ?_
      rintro e w9 ⟨rfl, rfl⟩
      go_wp2_with fail
      refine (draw1_any _ (nextNo s) _ _ (by omega) (by omega) (by simp [go_sem]) (by simp [go_sem])).mono ?_
      rintro e w9 ⟨rfl, rfl⟩
      go_wp2_with fail
      refine (draw1_any _ (nextNo (nextNo s)) _ _ (by omega) (by omega) (by simp [go_sem]) (by simp [go_sem])).mono ?_
      rintro e w9 ⟨rfl, rfl⟩
      go_wp2_with fail
      refine bodyPost_ret (v := .agg #[.int .i64 2, .int .i64 (nextNo (nextNo s) % (0 + 1)), .int .i64 (nextNo (nextNo (nextNo s)) % 256)]) (by simp [results, Try.results21, go_sem]) rfl ⟨by rw [HM.out], ?_⟩
      exact (by repeat (first | exact Below.refl _ _ | assumption | refine Below.alloc ?_ (by first | omega | (simp <;> omega)) _ | refine Below.setCell ?_ (by first | omega | (simp <;> omega)) _ | refine Below.drew ?_ | refine below_drewN ?_ _))
    · have hzb : (n == 0) = false := beq_eq_false_iff_ne.2 hz
      have hpos : 1 ≤ n := by omega
      by_cases k1 : nextNo s % 3 = 0
      · have HK := Lib.hid k1
        have HM := Lib.hid (show mOf n s = ⟨1, nextNo (nextNo s) % n, nextNo (nextNo (nextNo s)) % 256⟩ by unfold mOf; rw [if_pos ⟨h0, h4⟩, if_neg hz, if_pos k1])
        clear hz
        
        go_enter Try.func21, Try.ntmps21
        go_wp2_with (first | (go_at_call 35; refine (InRange_any _ _ _ _).mono ?_; rintro e w9 ⟨rfl, rfl⟩) | (go_at_call 39; refine (numbersFrom_any _ _).mono ?_; rintro e w9 ⟨rfl, rfl⟩))
        refine (draw1_any _ s _ _ (by omega) (by omega) (by simp [go_sem]) (by simp [go_sem])).mono ?_
        rintro e w9 ⟨rfl, rfl⟩
        go_wp2_with fail
        refine (draw1_any _ (nextNo s) _ _ (by omega) (by omega) (by simp [go_sem]) (by simp [go_sem])).mono ?_
        rintro e w9 ⟨rfl, rfl⟩
        go_wp2_with fail
        refine (draw1_any _ (nextNo (nextNo s)) _ _ (by omega) (by omega) (by simp [go_sem]) (by simp [go_sem])).mono ?_
        rintro e w9 ⟨rfl, rfl⟩
        go_wp2_with fail
        refine bodyPost_ret (v := .agg #[.int .i64 1, .int .i64 (nextNo (nextNo s) % n), .int .i64 (nextNo (nextNo (nextNo s)) % 256)]) (by simp [results, Try.results21, go_sem]) rfl ⟨by rw [HM.out], ?_⟩
        exact (by repeat (first | exact Below.refl _ _ | assumption | refine Below.alloc ?_ (by first | omega | (simp <;> omega)) _ | refine Below.setCell ?_ (by first | omega | (simp <;> omega)) _ | refine Below.drew ?_ | refine below_drewN ?_ _))
      · by_cases k2 : nextNo s % 3 = 1
        · have HK := Lib.hid k2
          have HM := Lib.hid (show mOf n s = ⟨2, nextNo (nextNo s) % (n + 1), nextNo (nextNo (nextNo s)) % 256⟩ by unfold mOf; rw [if_pos ⟨h0, h4⟩, if_neg hz, if_neg k1, if_pos k2])
          clear hz k1
          
          go_enter Try.func21, Try.ntmps21
          go_wp2_with (first | (go_at_call 35; refine (InRange_any _ _ _ _).mono ?_; rintro e w9 ⟨rfl, rfl⟩) | (go_at_call 39; refine (numbersFrom_any _ _).mono ?_; rintro e w9 ⟨rfl, rfl⟩))
          refine (draw1_any _ s _ _ (by omega) (by omega) (by simp [go_sem]) (by simp [go_sem])).mono ?_
          rintro e w9 ⟨rfl, rfl⟩
          go_wp2_with fail
          refine (draw1_any _ (nextNo s) _ _ (by omega) (by omega) (by simp [go_sem]) (by simp [go_sem])).mono ?_
          rintro e w9 ⟨rfl, rfl⟩
          go_wp2_with fail
          refine (draw1_any _ (nextNo (nextNo s)) _ _ (by omega) (by omega) (by simp [go_sem]) (by simp [go_sem])).mono ?_
          rintro e w9 ⟨rfl, rfl⟩
          go_wp2_with fail
          refine bodyPost_ret (v := .agg #[.int .i64 2, .int .i64 (nextNo (nextNo s) % (n + 1)), .int .i64 (nextNo (nextNo (nextNo s)) % 256)]) (by simp [results, Try.results21, go_sem]) rfl ⟨by rw [HM.out], ?_⟩
          exact (by repeat (first | exact Below.refl _ _ | assumption | refine Below.alloc ?_ (by first | omega | (simp <;> omega)) _ | refine Below.setCell ?_ (by first | omega | (simp <;> omega)) _ | refine Below.drew ?_ | refine below_drewN ?_ _))
        · have k3 : nextNo s % 3 = 2 := by omega
          have HM := Lib.hid (show mOf n s = ⟨3, nextNo (nextNo s) % n, 0⟩ by unfold mOf; rw [if_pos ⟨h0, h4⟩, if_neg hz, if_neg k1, if_neg k2])
          clear hz k1 k2
          
          go_enter Try.func21, Try.ntmps21
          go_wp2_with (first | (go_at_call 35; refine (InRange_any _ _ _ _).mono ?_; rintro e w9 ⟨rfl, rfl⟩) | (go_at_call 39; refine (numbersFrom_any _ _).mono ?_; rintro e w9 ⟨rfl, rfl⟩))
          refine (draw1_any _ s _ _ (by omega) (by omega) (by simp [go_sem]) (by simp [go_sem])).mono ?_
          rintro e w9 ⟨rfl, rfl⟩
          go_wp2_with fail
          refine (draw1_any _ (nextNo s) _ _ (by omega) (by omega) (by simp [go_sem]) (by simp [go_sem])).mono ?_
          rintro e w9 ⟨rfl, rfl⟩
          go_wp2_with fail
          refine (draw1_any _ (nextNo (nextNo s)) _ _ (by omega) (by omega) (by simp [go_sem]) (by simp [go_sem])).mono ?_
          rintro e w9 ⟨rfl, rfl⟩
          go_wp2_with fail
          refine bodyPost_ret (v := .agg #[.int .i64 3, .int .i64 (nextNo (nextNo s) % n), .int .i64 0]) (by simp [results, Try.results21, go_sem]) rfl ⟨by rw [HM.out], ?_⟩
          exact (by repeat (first | exact Below.refl _ _ | assumption | refine Below.alloc ?_ (by first | omega | (simp <;> omega)) _ | refine Below.setCell ?_ (by first | omega | (simp <;> omega)) _ | refine Below.drew ?_ | refine below_drewN ?_ _))
  · have hb := inB_false (x := n) (a := 0) (b := 400) (by omega)
    have HM := Lib.hid (show mOf n s = ⟨0, 0, 0⟩ by unfold mOf; rw [if_neg hin])
    clear hin
    
    go_enter Try.func21, Try.ntmps21
    go_wp2_with (first | (go_at_call 35; refine (InRange_any _ _ _ _).mono ?_; rintro e w9 ⟨rfl, rfl⟩) | (go_at_call 39; refine (numbersFrom_any _ _).mono ?_; rintro e w9 ⟨rfl, rfl⟩))
    refine bodyPost_ret (v := .agg #[.int .i64 0, .int .i64 0, .int .i64 0]) (by simp [results, Try.results21, go_sem]) rfl ⟨by rw [HM.out], ?_⟩
    exact (by repeat (first | exact Below.refl _ _ | assumption | refine Below.alloc ?_ (by first | omega | (simp <;> omega)) _ | refine Below.setCell ?_ (by first | omega | (simp <;> omega)) _ | refine Below.drew ?_ | refine below_drewN ?_ _))
end Go.Proofs.Ytacehndbkimggaa
