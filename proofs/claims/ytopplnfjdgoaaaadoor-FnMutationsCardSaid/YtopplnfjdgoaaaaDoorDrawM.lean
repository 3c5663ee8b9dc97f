/- The draws of mutations: l1Int, l26Mutation, DrawApplyMutation. Conditions: the cursor's block holds a cursor. -/
import Derived.Test.YtopplnfjdgoaaaaDoorCurW
import Derived.Test.YtopplnfjdgoaaaaDoorMutP2
import Derived.Test.YtopplnfjdgoaaaaDoorCurB
import Derived.WalkSpells
import Derived.WalkLawsBesides
namespace Go.Proofs.YtopplnfjdgoaaaaDoor
open Go.RowKit
set_option maxHeartbeats 400000 in
theorem l1Int_any (b : Nat) (v u : Value) (l : List UInt8) (xs : List Int) (w : World) (h : CurW b v l w) (A : Addr) (c : Nat) (hu : u = .slice (some ⟨A.block, 0, none⟩) xs.length c) (hlo : b ≠ A.block) (h1 : 1 ≤ xs.length) (h2 : xs.length ≤ 256)
    (hc : xs.length ≤ c) (hc2 : c ≤ 256) (hcell : ∀ k (hk : k < xs.length), w.cell? ⟨A.block, k, none⟩ = some (.int .i64 xs[k])) :
    Calls Tryd.prog 35 #[.pointer (some ⟨b, 0, none⟩), u] w fun e w' => (∃ x ∈ xs, e = .returned (.int .i64 x)) ∧ GoB b w w' ∧ w'.heap.size = w.heap.size ∧ CurW b v l w' := by
  subst hu
  go_enter Tryd.func35, Tryd.ntmps35
  go_wp2_with fail
  refine (below_any b b v l xs.length w h (by omega) (by omega)).mono ?_
  rintro e w1 ⟨⟨x, rfl, hx0, hx1⟩, hs, hz, hcw⟩
  obtain ⟨k, rfl⟩ := Int.eq_ofNat_of_zero_le hx0
  have hk : k < xs.length := by omega
  have hd := hs.out.cell (hcell k hk) (by show A.block < b ∨ b + 1 ≤ A.block; omega)
  have hmem : xs[k] ∈ xs := List.getElem_mem hk
  generalize xs[k] = y at *
  have H := Lib.hid (And.intro hmem (And.intro hs (And.intro hz hcw)))
  clear hcell h hs hz hcw hmem
  go_wp2
  go_ret
  exact ⟨⟨y, H.out.1, rfl⟩, H.out.2⟩
theorem cells_at {w : World} {cs : Array Value} {T : TypeId} {j : Nat} {u : Value} (h : cs[j]? = some u) : (w.alloc (.cells cs T)).cell? ⟨w.heap.size, j, none⟩ = some u := by
  have := World.alloc_heap_new w (.cells cs T)
  simp only [World.cell?, this]
  exact h
/-- Three integers in a block. -/
def M3 (g : Nat) (T : TypeId) (a p z : Int) (W : World) : Prop := W.heap[g]? = some (.cells #[.int .i64 a, .int .i64 p, .int .i64 z] T (0, 0))
theorem M3.new (W : World) (T : TypeId) (a p z : Int) : M3 W.heap.size T a p z (W.alloc (.cells #[.int .i64 a, .int .i64 p, .int .i64 z] T)) := World.alloc_heap_new W _
theorem M3.lt {g : Nat} {T : TypeId} {a p z : Int} {W : World} (h : M3 g T a p z W) : g < W.heap.size := (Array.getElem?_eq_some_iff.1 h).1
theorem M3.go {g b : Nat} {T : TypeId} {a p z : Int} {W W' : World} (h : M3 g T a p z W) (hs : GoB b W W') (hn : g ≠ b) : M3 g T a p z W' := (hs.block g h.lt (fun e => hn (by injection e))).trans h
theorem M3.alloc {g : Nat} {T : TypeId} {a p z : Int} {W : World} (h : M3 g T a p z W) (o : Obj) : M3 g T a p z (W.alloc o) := (Below.heap_alloc W o g h.lt).trans h
theorem M3.c0 {g : Nat} {T : TypeId} {a p z : Int} {W : World} (h : M3 g T a p z W) : W.cell? ⟨g, 0, none⟩ = some (.int .i64 a) := by simp [World.cell?, show W.heap[g]? = _ from h]
theorem M3.c1 {g : Nat} {T : TypeId} {a p z : Int} {W : World} (h : M3 g T a p z W) : W.cell? ⟨g, 1, none⟩ = some (.int .i64 p) := by simp [World.cell?, show W.heap[g]? = _ from h]
theorem M3.c2 {g : Nat} {T : TypeId} {a p z : Int} {W : World} (h : M3 g T a p z W) : W.cell? ⟨g, 2, none⟩ = some (.int .i64 z) := by simp [World.cell?, show W.heap[g]? = _ from h]
theorem M3.f {g : Nat} {T : TypeId} {a p z : Int} {W : World} (h : M3 g T a p z W) (i : Nat) : W.frozen? ⟨g, i, none⟩ = false := by simp [World.frozen?, show W.heap[g]? = _ from h]
theorem M3.set0 {g : Nat} {T : TypeId} {a p z : Int} {W : World} (h : M3 g T a p z W) (x : Int) : M3 g T x p z (W.setCell ⟨g, 0, none⟩ (.int .i64 x)) := by
  obtain ⟨hlt, hk⟩ := Array.getElem?_eq_some_iff.1 h
  show (W.heap.modify g _)[g]? = _
  rw [Array.getElem?_eq_getElem (by rw [Array.size_modify]; exact hlt), Array.getElem_modify_self, hk]
  rfl
theorem M3.set1 {g : Nat} {T : TypeId} {a p z : Int} {W : World} (h : M3 g T a p z W) (x : Int) : M3 g T a x z (W.setCell ⟨g, 1, none⟩ (.int .i64 x)) := by
  obtain ⟨hlt, hk⟩ := Array.getElem?_eq_some_iff.1 h
  show (W.heap.modify g _)[g]? = _
  rw [Array.getElem?_eq_getElem (by rw [Array.size_modify]; exact hlt), Array.getElem_modify_self, hk]
  rfl
theorem M3.set2 {g : Nat} {T : TypeId} {a p z : Int} {W : World} (h : M3 g T a p z W) (x : Int) : M3 g T a p x (W.setCell ⟨g, 2, none⟩ (.int .i64 x)) := by
  obtain ⟨hlt, hk⟩ := Array.getElem?_eq_some_iff.1 h
  show (W.heap.modify g _)[g]? = _
  rw [Array.getElem?_eq_getElem (by rw [Array.size_modify]; exact hlt), Array.getElem_modify_self, hk]
  rfl
theorem M3.other {g g' o : Nat} {T : TypeId} {a p z : Int} {W : World} (h : M3 g T a p z W) (hn : g ≠ g') (u : Value) : M3 g T a p z (W.setCell ⟨g', o, none⟩ u) := (Below.heap_setCell _ _ _ g hn).trans h
theorem M3.set {g : Nat} {T : TypeId} {a p z : Int} {W : World} (h : M3 g T a p z W) (x y t : Int) : M3 g T x y t (((W.setCell ⟨g, 0, none⟩ (.int .i64 x)).setCell ⟨g, 1, none⟩ (.int .i64 y)).setCell ⟨g, 2, none⟩ (.int .i64 t)) := ((h.set0 x).set1 y).set2 t
theorem GoB.cellSet {b g o : Nat} {a w : World} (h : GoB b a w) (hg : a.heap.size ≤ g) (u : Value) : GoB b a (w.setCell ⟨g, o, none⟩ u) :=
  have k := grownBy_setCell w g o u
  ⟨k.os.trans h.os, k.tape.trans h.tape, k.output.trans h.output, Nat.le_trans h.size k.size, fun j hj hne => (k.block j (Nat.lt_of_lt_of_le hj h.size) (fun e => by injection e; omega)).trans (h.block j hj hne)⟩
theorem CurW.cellSet {b g o : Nat} {v : Value} {l : List UInt8} {w : World} (h : CurW b v l w) (hg : b < g) (u : Value) : CurW b v l (w.setCell ⟨g, o, none⟩ u) := by
  have hb : Below (b + 1) w (w.setCell ⟨g, o, none⟩ u) := (Below.refl (b + 1) w).grown (grownBy_setCell w g o u) h.lt (fun k e => by injection e; omega)
  exact ⟨Sl.below h.sl (hb.mono (by omega)), h.at_.grown hb⟩
/-- What a draw of a mutation answers. -/
def DrawnM (b : Nat) (v : Value) (l : List UInt8) (w : World) (e : Ending) (w' : World) : Prop := ∃ m : Muta, e = .returned (mutV m) ∧ m.ok ∧ GoB b w w' ∧ CurW b v l w'
set_option maxHeartbeats 1500000 in
set_option maxRecDepth 100000 in
theorem l26Mutation_any (b : Nat) (v : Value) (l : List UInt8) (n : Nat) (w : World) (h : CurW b v l w) (hn : n ≤ 1000) :
    Calls Tryd.prog 26 #[.pointer (some ⟨b, 0, none⟩), .int .i64 n] w (DrawnM b v l w) := by
  have h0 := h.lt
  have hc1 := h.alloc (.cells #[.int .i64 0, .int .i64 0, .int .i64 0] 25)
  have HC1 := Lib.hid hc1
  clear hc1 h
  go_enter Tryd.func26, Tryd.ntmps26
  go_wp2_with fail
  refine (below_any b b v l 3 _ HC1.out (by omega) (by omega)).mono ?_
  rintro e w1 ⟨⟨k, rfl, hk0, hk1⟩, hs1, hz1, hc1⟩
  have HR1 := Lib.hid hs1
  have HG1 := Lib.hid ((GoB.of_below ((Below.refl _ _).alloc (Nat.le_refl _) _) : GoB b w (w.alloc (.cells #[.int .i64 0, .int .i64 0, .int .i64 0] 25))).trans hs1)
  have HC2 := Lib.hid hc1
  clear hs1 hc1 HC1 hz1
  go_wp2_with fail
  refine (below_any b b v l ((n : Int) + 1) _ HC2.out (by omega) (by omega)).mono ?_
  rintro e w2 ⟨⟨p, rfl, hp0, hp1⟩, hs2, hz2, hc2⟩
  have HR2 := Lib.hid (HR1.out.trans hs2)
  have HG2 := Lib.hid (HG1.out.trans hs2)
  have HC3 := Lib.hid hc2
  clear hs2 hc2 HC2 hz2 HG1
  go_wp2_with fail
  refine (below_any b b v l 256 _ HC3.out (by omega) (by omega)).mono ?_
  rintro e w3 ⟨⟨y, rfl, hy0, hy1⟩, hs3, hz3, hc3⟩
  have HG3r := Lib.hid (HR2.out.trans hs3)
  have HG3 := Lib.hid (HG2.out.trans hs3)
  have HC4 := Lib.hid hc3
  clear hs3 hc3 HC3 hz3 HG2
  go_wp2_with fail
  all_goals
    have hlt4 := HC4.out.lt
    have hg3 := HG3.out.size
    refine (below_any b b v l 10 _ (HC4.out.alloc _) (by omega) (by omega)).mono ?_
    rintro e w4 ⟨⟨x, rfl, hx0, hx1⟩, hs4, hz4, hc4⟩
    have m4 := (M3.new w3 _ _ _ _).go hs4 (by omega)
    have r4 := (((M3.new w _ _ _ _).go HG3r.out (by omega)).alloc _).go hs4 (by omega)
    have HG4 := Lib.hid ((HG3.out.alloc _).trans hs4)
    have HC5 := Lib.hid hc4
    have hg3' : w.heap.size + 1 ≤ w3.heap.size := by have := HG3r.out.size; simpa using this
    have hz4' : w3.heap.size + 1 ≤ w4.heap.size := by rw [hz4]; simp
    clear hs4 hc4 HG3 HC4 hz4
    have c0 := m4.c0
    have c1 := m4.c1
    have c2 := m4.c2
    have f0 := m4.f 0
    have f1 := m4.f 1
    have f2 := m4.f 2
    have d0 := r4.c0
    have d1 := r4.c1
    have d2 := r4.c2
    have g0 := r4.f 0
    have g1 := r4.f 1
    have g2 := r4.f 2
    have hx : x = 0 ∨ x = 1 ∨ x = 2 ∨ (x ≠ 0 ∧ x ≠ 1 ∧ x ≠ 2) := by omega
    rcases hx with rfl | rfl | rfl | ⟨n0, n1, n2⟩
    · have hd4 := HC5.out.lt
      have hcs : ∀ k (hk : k < ([0, 4] : List Int).length), (w4.alloc (.cells #[.int .i64 0, .int .i64 4] 3)).cell? ⟨w4.heap.size, k, none⟩ = some (.int .i64 ([0, 4] : List Int)[k]) := by
        intro k hk
        match k, hk with
        | 0, _ => exact cells_at rfl
        | 1, _ => exact cells_at rfl
      have hI := l1Int_any b v (.slice (some ⟨w4.heap.size, 0, none⟩) 2 2) l [0, 4] (w4.alloc (.cells #[.int .i64 0, .int .i64 4] 3)) (HC5.out.alloc _) ⟨w4.heap.size, 0, none⟩ 2 rfl (by show b ≠ w4.heap.size; omega) (by simp) (by simp) (by simp) (by omega) hcs
      clear hcs
      go_wp2_with fail
      refine hI.mono ?_
      rintro e w5 ⟨⟨y5, hy5, rfl⟩, hs5, hz5, hc5⟩
      have hyb : -1 ≤ y5 ∧ y5 ≤ 1001 := by
        simp only [List.mem_cons, List.not_mem_nil, or_false] at hy5
        omega
      have m5 := (m4.alloc _).go hs5 (by omega)
      have r5 := (r4.alloc _).go hs5 (by omega)
      have HG5 := Lib.hid ((HG4.out.alloc _).trans hs5)
      have HC6 := Lib.hid hc5
      have s0 := m5.c0
      have s1 := m5.c1
      have s2 := m5.c2
      have t0 := m5.f 0
      have t1 := m5.f 1
      have t2 := m5.f 2
      have u0 := r5.c0
      have u1 := r5.c1
      have u2 := r5.c2
      have v0 := r5.f 0
      have v1 := r5.f 1
      have v2 := r5.f 2
      clear hs5 hz5 hc5 hy5
      have hm5 := m5.set0 y5
      have a0 := hm5.c0
      have a1 := hm5.c1
      have a2 := hm5.c2
      have hr5 := r5.other (g' := w3.heap.size) (o := 0) (by omega) (.int .i64 y5)
      have b0 := hr5.c0
      have b1 := hr5.c1
      have b2 := hr5.c2
      have h0' := hr5.f 0
      have h1' := hr5.f 1
      have h2' := hr5.f 2
      go_wp2
      first
        | (have R := hr5.set y5 p 0
           have G : GoB b w ((((w5.setCell ⟨w3.heap.size, 0, none⟩ (.int .i64 y5)).setCell ⟨w.heap.size, 0, none⟩ (.int .i64 y5)).setCell ⟨w.heap.size, 1, none⟩ (.int .i64 p)).setCell ⟨w.heap.size, 2, none⟩ (.int .i64 0)) := (((HG5.out.cellSet (g := w3.heap.size) (o := 0) (by omega) (.int .i64 y5)).cellSet (Nat.le_refl _) _).cellSet (Nat.le_refl _) _).cellSet (Nat.le_refl _) _
           have C : CurW b v l ((((w5.setCell ⟨w3.heap.size, 0, none⟩ (.int .i64 y5)).setCell ⟨w.heap.size, 0, none⟩ (.int .i64 y5)).setCell ⟨w.heap.size, 1, none⟩ (.int .i64 p)).setCell ⟨w.heap.size, 2, none⟩ (.int .i64 0)) := (((HC6.out.cellSet (g := w3.heap.size) (o := 0) (by omega) (.int .i64 y5)).cellSet h0 _).cellSet h0 _).cellSet h0 _
           generalize hW9 : ((((w5.setCell ⟨w3.heap.size, 0, none⟩ (.int .i64 y5)).setCell ⟨w.heap.size, 0, none⟩ (.int .i64 y5)).setCell ⟨w.heap.size, 1, none⟩ (.int .i64 p)).setCell ⟨w.heap.size, 2, none⟩ (.int .i64 0)) = W9 at R G C ⊢
           have q0 := R.c0
           have q1 := R.c1
           have q2 := R.c2
           refine bodyPost_ret (v := mutV ⟨y5, p, 0⟩) (by simp [results, Tryd.f26, go_sem, mutV, q0, q1, q2]) rfl ?_
           exact ⟨⟨y5, p, 0⟩, rfl, ⟨⟨by simp only; omega, by simp only; omega⟩, ⟨by simp only; omega, by simp only; omega⟩, ⟨by simp only; omega, by simp only; omega⟩⟩, G, C⟩)
        | (have R := hr5.set y5 p y
           have G : GoB b w ((((w5.setCell ⟨w3.heap.size, 0, none⟩ (.int .i64 y5)).setCell ⟨w.heap.size, 0, none⟩ (.int .i64 y5)).setCell ⟨w.heap.size, 1, none⟩ (.int .i64 p)).setCell ⟨w.heap.size, 2, none⟩ (.int .i64 y)) := (((HG5.out.cellSet (g := w3.heap.size) (o := 0) (by omega) (.int .i64 y5)).cellSet (Nat.le_refl _) _).cellSet (Nat.le_refl _) _).cellSet (Nat.le_refl _) _
           have C : CurW b v l ((((w5.setCell ⟨w3.heap.size, 0, none⟩ (.int .i64 y5)).setCell ⟨w.heap.size, 0, none⟩ (.int .i64 y5)).setCell ⟨w.heap.size, 1, none⟩ (.int .i64 p)).setCell ⟨w.heap.size, 2, none⟩ (.int .i64 y)) := (((HC6.out.cellSet (g := w3.heap.size) (o := 0) (by omega) (.int .i64 y5)).cellSet h0 _).cellSet h0 _).cellSet h0 _
           generalize hW9 : ((((w5.setCell ⟨w3.heap.size, 0, none⟩ (.int .i64 y5)).setCell ⟨w.heap.size, 0, none⟩ (.int .i64 y5)).setCell ⟨w.heap.size, 1, none⟩ (.int .i64 p)).setCell ⟨w.heap.size, 2, none⟩ (.int .i64 y)) = W9 at R G C ⊢
           have q0 := R.c0
           have q1 := R.c1
           have q2 := R.c2
           refine bodyPost_ret (v := mutV ⟨y5, p, y⟩) (by simp [results, Tryd.f26, go_sem, mutV, q0, q1, q2]) rfl ?_
           exact ⟨⟨y5, p, y⟩, rfl, ⟨⟨by simp only; omega, by simp only; omega⟩, ⟨by simp only; omega, by simp only; omega⟩, ⟨by simp only; omega, by simp only; omega⟩⟩, G, C⟩)
    · have hd4 := HC5.out.lt
      have hcs : ∀ k (hk : k < ([-1, (n : Int), (n : Int) + 1] : List Int).length), (w4.alloc (.cells #[.int .i64 (-1), .int .i64 ((n : Int)), .int .i64 ((n : Int) + 1)] 3)).cell? ⟨w4.heap.size, k, none⟩ = some (.int .i64 ([-1, (n : Int), (n : Int) + 1] : List Int)[k]) := by
        intro k hk
        match k, hk with
        | 0, _ => exact cells_at rfl
        | 1, _ => exact cells_at rfl
        | 2, _ => exact cells_at rfl
      have hI := l1Int_any b v (.slice (some ⟨w4.heap.size, 0, none⟩) 3 3) l [-1, (n : Int), (n : Int) + 1] (w4.alloc (.cells #[.int .i64 (-1), .int .i64 ((n : Int)), .int .i64 ((n : Int) + 1)] 3)) (HC5.out.alloc _) ⟨w4.heap.size, 0, none⟩ 3 rfl (by show b ≠ w4.heap.size; omega) (by simp) (by simp) (by simp) (by omega) hcs
      clear hcs
      go_wp2_with fail
      refine hI.mono ?_
      rintro e w5 ⟨⟨y5, hy5, rfl⟩, hs5, hz5, hc5⟩
      have hyb : -1 ≤ y5 ∧ y5 ≤ 1001 := by
        simp only [List.mem_cons, List.not_mem_nil, or_false] at hy5
        omega
      have m5 := (m4.alloc _).go hs5 (by omega)
      have r5 := (r4.alloc _).go hs5 (by omega)
      have HG5 := Lib.hid ((HG4.out.alloc _).trans hs5)
      have HC6 := Lib.hid hc5
      have s0 := m5.c0
      have s1 := m5.c1
      have s2 := m5.c2
      have t0 := m5.f 0
      have t1 := m5.f 1
      have t2 := m5.f 2
      have u0 := r5.c0
      have u1 := r5.c1
      have u2 := r5.c2
      have v0 := r5.f 0
      have v1 := r5.f 1
      have v2 := r5.f 2
      clear hs5 hz5 hc5 hy5
      have hm5 := m5.set1 y5
      have a0 := hm5.c0
      have a1 := hm5.c1
      have a2 := hm5.c2
      have hr5 := r5.other (g' := w3.heap.size) (o := 1) (by omega) (.int .i64 y5)
      have b0 := hr5.c0
      have b1 := hr5.c1
      have b2 := hr5.c2
      have h0' := hr5.f 0
      have h1' := hr5.f 1
      have h2' := hr5.f 2
      go_wp2
      first
        | (have R := hr5.set (1 + k) y5 0
           have G : GoB b w ((((w5.setCell ⟨w3.heap.size, 1, none⟩ (.int .i64 y5)).setCell ⟨w.heap.size, 0, none⟩ (.int .i64 (1 + k))).setCell ⟨w.heap.size, 1, none⟩ (.int .i64 y5)).setCell ⟨w.heap.size, 2, none⟩ (.int .i64 0)) := (((HG5.out.cellSet (g := w3.heap.size) (o := 1) (by omega) (.int .i64 y5)).cellSet (Nat.le_refl _) _).cellSet (Nat.le_refl _) _).cellSet (Nat.le_refl _) _
           have C : CurW b v l ((((w5.setCell ⟨w3.heap.size, 1, none⟩ (.int .i64 y5)).setCell ⟨w.heap.size, 0, none⟩ (.int .i64 (1 + k))).setCell ⟨w.heap.size, 1, none⟩ (.int .i64 y5)).setCell ⟨w.heap.size, 2, none⟩ (.int .i64 0)) := (((HC6.out.cellSet (g := w3.heap.size) (o := 1) (by omega) (.int .i64 y5)).cellSet h0 _).cellSet h0 _).cellSet h0 _
           generalize hW9 : ((((w5.setCell ⟨w3.heap.size, 1, none⟩ (.int .i64 y5)).setCell ⟨w.heap.size, 0, none⟩ (.int .i64 (1 + k))).setCell ⟨w.heap.size, 1, none⟩ (.int .i64 y5)).setCell ⟨w.heap.size, 2, none⟩ (.int .i64 0)) = W9 at R G C ⊢
           have q0 := R.c0
           have q1 := R.c1
           have q2 := R.c2
           refine bodyPost_ret (v := mutV ⟨(1 + k), y5, 0⟩) (by simp [results, Tryd.f26, go_sem, mutV, q0, q1, q2]) rfl ?_
           exact ⟨⟨(1 + k), y5, 0⟩, rfl, ⟨⟨by simp only; omega, by simp only; omega⟩, ⟨by simp only; omega, by simp only; omega⟩, ⟨by simp only; omega, by simp only; omega⟩⟩, G, C⟩)
        | (have R := hr5.set (1 + k) y5 y
           have G : GoB b w ((((w5.setCell ⟨w3.heap.size, 1, none⟩ (.int .i64 y5)).setCell ⟨w.heap.size, 0, none⟩ (.int .i64 (1 + k))).setCell ⟨w.heap.size, 1, none⟩ (.int .i64 y5)).setCell ⟨w.heap.size, 2, none⟩ (.int .i64 y)) := (((HG5.out.cellSet (g := w3.heap.size) (o := 1) (by omega) (.int .i64 y5)).cellSet (Nat.le_refl _) _).cellSet (Nat.le_refl _) _).cellSet (Nat.le_refl _) _
           have C : CurW b v l ((((w5.setCell ⟨w3.heap.size, 1, none⟩ (.int .i64 y5)).setCell ⟨w.heap.size, 0, none⟩ (.int .i64 (1 + k))).setCell ⟨w.heap.size, 1, none⟩ (.int .i64 y5)).setCell ⟨w.heap.size, 2, none⟩ (.int .i64 y)) := (((HC6.out.cellSet (g := w3.heap.size) (o := 1) (by omega) (.int .i64 y5)).cellSet h0 _).cellSet h0 _).cellSet h0 _
           generalize hW9 : ((((w5.setCell ⟨w3.heap.size, 1, none⟩ (.int .i64 y5)).setCell ⟨w.heap.size, 0, none⟩ (.int .i64 (1 + k))).setCell ⟨w.heap.size, 1, none⟩ (.int .i64 y5)).setCell ⟨w.heap.size, 2, none⟩ (.int .i64 y)) = W9 at R G C ⊢
           have q0 := R.c0
           have q1 := R.c1
           have q2 := R.c2
           refine bodyPost_ret (v := mutV ⟨(1 + k), y5, y⟩) (by simp [results, Tryd.f26, go_sem, mutV, q0, q1, q2]) rfl ?_
           exact ⟨⟨(1 + k), y5, y⟩, rfl, ⟨⟨by simp only; omega, by simp only; omega⟩, ⟨by simp only; omega, by simp only; omega⟩, ⟨by simp only; omega, by simp only; omega⟩⟩, G, C⟩)
    · have hd4 := HC5.out.lt
      have hcs : ∀ k (hk : k < ([-1, 255, 256] : List Int).length), (w4.alloc (.cells #[.int .i64 (-1), .int .i64 255, .int .i64 256] 3)).cell? ⟨w4.heap.size, k, none⟩ = some (.int .i64 ([-1, 255, 256] : List Int)[k]) := by
        intro k hk
        match k, hk with
        | 0, _ => exact cells_at rfl
        | 1, _ => exact cells_at rfl
        | 2, _ => exact cells_at rfl
      have hI := l1Int_any b v (.slice (some ⟨w4.heap.size, 0, none⟩) 3 3) l [-1, 255, 256] (w4.alloc (.cells #[.int .i64 (-1), .int .i64 255, .int .i64 256] 3)) (HC5.out.alloc _) ⟨w4.heap.size, 0, none⟩ 3 rfl (by show b ≠ w4.heap.size; omega) (by simp) (by simp) (by simp) (by omega) hcs
      clear hcs
      go_wp2_with fail
      refine hI.mono ?_
      rintro e w5 ⟨⟨y5, hy5, rfl⟩, hs5, hz5, hc5⟩
      have hyb : -1 ≤ y5 ∧ y5 ≤ 1001 := by
        simp only [List.mem_cons, List.not_mem_nil, or_false] at hy5
        omega
      have m5 := (m4.alloc _).go hs5 (by omega)
      have r5 := (r4.alloc _).go hs5 (by omega)
      have HG5 := Lib.hid ((HG4.out.alloc _).trans hs5)
      have HC6 := Lib.hid hc5
      have s0 := m5.c0
      have s1 := m5.c1
      have s2 := m5.c2
      have t0 := m5.f 0
      have t1 := m5.f 1
      have t2 := m5.f 2
      have u0 := r5.c0
      have u1 := r5.c1
      have u2 := r5.c2
      have v0 := r5.f 0
      have v1 := r5.f 1
      have v2 := r5.f 2
      clear hs5 hz5 hc5 hy5
      have hm5 := m5.set2 y5
      have a0 := hm5.c0
      have a1 := hm5.c1
      have a2 := hm5.c2
      have hr5 := r5.other (g' := w3.heap.size) (o := 2) (by omega) (.int .i64 y5)
      have b0 := hr5.c0
      have b1 := hr5.c1
      have b2 := hr5.c2
      have h0' := hr5.f 0
      have h1' := hr5.f 1
      have h2' := hr5.f 2
      go_wp2
      have R := hr5.set (1 + k) p y5
      have G : GoB b w ((((w5.setCell ⟨w3.heap.size, 2, none⟩ (.int .i64 y5)).setCell ⟨w.heap.size, 0, none⟩ (.int .i64 (1 + k))).setCell ⟨w.heap.size, 1, none⟩ (.int .i64 p)).setCell ⟨w.heap.size, 2, none⟩ (.int .i64 y5)) := (((HG5.out.cellSet (g := w3.heap.size) (o := 2) (by omega) (.int .i64 y5)).cellSet (Nat.le_refl _) _).cellSet (Nat.le_refl _) _).cellSet (Nat.le_refl _) _
      have C : CurW b v l ((((w5.setCell ⟨w3.heap.size, 2, none⟩ (.int .i64 y5)).setCell ⟨w.heap.size, 0, none⟩ (.int .i64 (1 + k))).setCell ⟨w.heap.size, 1, none⟩ (.int .i64 p)).setCell ⟨w.heap.size, 2, none⟩ (.int .i64 y5)) := (((HC6.out.cellSet (g := w3.heap.size) (o := 2) (by omega) (.int .i64 y5)).cellSet h0 _).cellSet h0 _).cellSet h0 _
      generalize hW9 : ((((w5.setCell ⟨w3.heap.size, 2, none⟩ (.int .i64 y5)).setCell ⟨w.heap.size, 0, none⟩ (.int .i64 (1 + k))).setCell ⟨w.heap.size, 1, none⟩ (.int .i64 p)).setCell ⟨w.heap.size, 2, none⟩ (.int .i64 y5)) = W9 at R G C ⊢
      have q0 := R.c0
      have q1 := R.c1
      have q2 := R.c2
      refine bodyPost_ret (v := mutV ⟨(1 + k), p, y5⟩) (by simp [results, Tryd.f26, go_sem, mutV, q0, q1, q2]) rfl ?_
      exact ⟨⟨(1 + k), p, y5⟩, rfl, ⟨⟨by simp only; omega, by simp only; omega⟩, ⟨by simp only; omega, by simp only; omega⟩, ⟨by simp only; omega, by simp only; omega⟩⟩, G, C⟩
    · have e0 : (x == 0) = false := by rw [beq_eq_false_iff_ne]; exact n0
      have e1 : (x == 1) = false := by rw [beq_eq_false_iff_ne]; exact n1
      have e2 : (x == 2) = false := by rw [beq_eq_false_iff_ne]; exact n2
      go_wp2
      first
        | (have R := r4.set (1 + k) p 0
           have G : GoB b w (((w4.setCell ⟨w.heap.size, 0, none⟩ (.int .i64 (1 + k))).setCell ⟨w.heap.size, 1, none⟩ (.int .i64 p)).setCell ⟨w.heap.size, 2, none⟩ (.int .i64 0)) := ((HG4.out.cellSet (Nat.le_refl _) _).cellSet (Nat.le_refl _) _).cellSet (Nat.le_refl _) _
           have C : CurW b v l (((w4.setCell ⟨w.heap.size, 0, none⟩ (.int .i64 (1 + k))).setCell ⟨w.heap.size, 1, none⟩ (.int .i64 p)).setCell ⟨w.heap.size, 2, none⟩ (.int .i64 0)) := ((HC5.out.cellSet h0 _).cellSet h0 _).cellSet h0 _
           generalize hW9 : (((w4.setCell ⟨w.heap.size, 0, none⟩ (.int .i64 (1 + k))).setCell ⟨w.heap.size, 1, none⟩ (.int .i64 p)).setCell ⟨w.heap.size, 2, none⟩ (.int .i64 0)) = W9 at R G C ⊢
           have q0 := R.c0
           have q1 := R.c1
           have q2 := R.c2
           refine bodyPost_ret (v := mutV ⟨(1 + k), p, 0⟩) (by simp [results, Tryd.f26, go_sem, mutV, q0, q1, q2]) rfl ?_
           exact ⟨⟨(1 + k), p, 0⟩, rfl, ⟨⟨by simp only; omega, by simp only; omega⟩, ⟨by simp only; omega, by simp only; omega⟩, ⟨by simp only; omega, by simp only; omega⟩⟩, G, C⟩)
        | (have R := r4.set (1 + k) p y
           have G : GoB b w (((w4.setCell ⟨w.heap.size, 0, none⟩ (.int .i64 (1 + k))).setCell ⟨w.heap.size, 1, none⟩ (.int .i64 p)).setCell ⟨w.heap.size, 2, none⟩ (.int .i64 y)) := ((HG4.out.cellSet (Nat.le_refl _) _).cellSet (Nat.le_refl _) _).cellSet (Nat.le_refl _) _
           have C : CurW b v l (((w4.setCell ⟨w.heap.size, 0, none⟩ (.int .i64 (1 + k))).setCell ⟨w.heap.size, 1, none⟩ (.int .i64 p)).setCell ⟨w.heap.size, 2, none⟩ (.int .i64 y)) := ((HC5.out.cellSet h0 _).cellSet h0 _).cellSet h0 _
           generalize hW9 : (((w4.setCell ⟨w.heap.size, 0, none⟩ (.int .i64 (1 + k))).setCell ⟨w.heap.size, 1, none⟩ (.int .i64 p)).setCell ⟨w.heap.size, 2, none⟩ (.int .i64 y)) = W9 at R G C ⊢
           have q0 := R.c0
           have q1 := R.c1
           have q2 := R.c2
           refine bodyPost_ret (v := mutV ⟨(1 + k), p, y⟩) (by simp [results, Tryd.f26, go_sem, mutV, q0, q1, q2]) rfl ?_
           exact ⟨⟨(1 + k), p, y⟩, rfl, ⟨⟨by simp only; omega, by simp only; omega⟩, ⟨by simp only; omega, by simp only; omega⟩, ⟨by simp only; omega, by simp only; omega⟩⟩, G, C⟩)
end Go.Proofs.YtopplnfjdgoaaaaDoor
