/- append onto a row of the call's own, the source nil, empty or not; a slice of a slice. No condition but room. -/
import Derived.Test.YtkfmdkogifmfmaaDoorByte
import Derived.OwnWalk
namespace Go.Proofs.YtkfmdkogifmfmaaDoor
set_option linter.unusedSimpArgs false
set_option linter.unusedVariables false
open Go.RowKit

section
variable {P : Program} (w : World)
theorem app_nil (base : Nat) (t ty e : TypeId) (i : TypeInfo) (size : Nat) (ht : P.underlying t = some (.slice e)) (hi : P.info? e = some i)
    (v : Value) (n : Nat) (xs : List Value) (hown : w.ownsRow base e size v n xs) (c : Nat) : (Builtin.append_ #[t, t] ty #[v, .slice none 0 c]).run P w = .ok v w := by
  rcases hown.2 with ⟨rfl, rfl⟩ | ⟨g, cap, cur, rfl, _, _, hnc, _⟩
  · simp [Builtin.append_, run_underlying ht, sizeOf, typeInfo, hi, Builtin.lenOf, Builtin.firstCells]
  · simp [Builtin.append_, run_underlying ht, sizeOf, typeInfo, hi, Builtin.lenOf, Builtin.firstCells, hnc, storeCells]

theorem run_app (base : Nat) (t ty e : TypeId) (i : TypeInfo) (z : Value) (size bytes : Nat) (ht : P.underlying t = some (.slice e)) (hi : P.info? e = some i) (hz : i.zero = some z)
    (hsize : i.size = size) (hby : i.bytes = bytes) (hzs : z.cells.size = size) (hsz : 0 < size)
    (v : Value) (n : Nat) (xs : List Value) (hown : w.ownsRow base e size v n xs)
    (B m : Nat) (src : Value) (news : List Value) (hs : Sl w B size src m news) (h1 : ∀ u ∈ news, u.oneCell' = true)
    (hroom : (n + m) * bytes ≤ 140737488355328) (h63 : n + m ≤ maxLen) (hbase : base ≤ w.heap.size) :
    ∃ v' w', (Builtin.append_ #[t, t] ty #[v, src]).run P w = .ok v' w' ∧ w'.ownsRow base e size v' (n + m) (xs ++ news) ∧ w.grownBy w' v.ownBlock ∧ (v'.ownBlock = v.ownBlock ∨ v'.ownBlock = some w.heap.size) := by
  obtain ⟨hl, A, c, rfl, hc, hm, hr⟩ := hs
  rcases Nat.eq_zero_or_pos m with h0 | h0
  · subst h0
    have hn : news = [] := List.eq_nil_of_length_eq_zero (by simpa using hl)
    subst hn
    rcases A with _ | ad
    · exact ⟨v, w, app_nil w base t ty e i size ht hi v n xs hown c, by simpa using hown, World.grownBy.refl w _, .inl rfl⟩
    · obtain ⟨v', w', hrun, h2, h3, _, h5⟩ := run_append_own_at (P := P) w base t ty e i z size bytes ht hi hz hsize hby hzs hsz v n xs hown ad 0 c [] (by simp) (by simp) (by simp) h63 hroom hbase
      exact ⟨v', w', hrun, h2, h3, h5⟩
  · obtain ⟨b, off, rfl, hb, hcell⟩ := hr h0
    have hadd : ∀ j, (⟨b, off, none⟩ : Addr).add j = ⟨b, off + j, none⟩ := by intro j; unfold Addr.add; split <;> simp_all
    obtain ⟨v', w', hrun, h2, h3, _, h5⟩ := run_append_own_at (P := P) w base t ty e i z size bytes ht hi hz hsize hby hzs hsz v n xs hown ⟨b, off, none⟩ m c news hl (fun j u hu => by rw [hadd]; exact hcell j u hu) h1 h63 hroom hbase
    exact ⟨v', w', hrun, h2, h3, h5⟩

theorem wp_app {o : Oper} {a : Act} {K : Act → World → Prop} {Q : Exit → Act → World → Prop} (s x : Operand) (t : TypeId)
    (ho : o.op = .call { callee := .builtin .append, args := #[s, x], argTypes := #[t, t] })
    (base : Nat) (e : TypeId) (i : TypeInfo) (z : Value) (size bytes : Nat) (ht : P.underlying t = some (.slice e)) (hi : P.info? e = some i) (hz : i.zero = some z)
    (hsize : i.size = size) (hby : i.bytes = bytes) (hzs : z.cells.size = size) (hsz : 0 < size)
    (v : Value) (n : Nat) (xs : List Value) (hv : a.eval s = v) (hown : w.ownsRow base e size v n xs)
    (B m : Nat) (src : Value) (news : List Value) (hx : a.eval x = src) (hs : Sl w B size src m news) (h1 : ∀ u ∈ news, u.oneCell' = true)
    (hroom : (n + m) * bytes ≤ 140737488355328) (h63 : n + m ≤ maxLen) (hbase : base ≤ w.heap.size)
    (h : ∀ v' w', w'.ownsRow base e size v' (n + m) (xs ++ news) → w.grownBy w' v.ownBlock → (v'.ownBlock = v.ownBlock ∨ v'.ownBlock = some w.heap.size) → K (a.put o.dst v') w') : o.wp P a w K Q := by
  obtain ⟨v', w', hrun, h2, h3, h4⟩ := run_app (P := P) w base t o.type e i z size bytes ht hi hz hsize hby hzs hsz v n xs hown B m src news hs h1 hroom h63 hbase
  unfold Oper.wp execOp
  simp only [ho, resolve, invoke, builtin, Sem.run_bind, Sem.run_pure, Result.andThen_ok, List.map_toArray, List.map_cons, List.map_nil, hv, hx, hrun]
  exact h v' w' h2 h3 h4

theorem wpList_app {ops : Array Oper} {rest : List Oper} {o : Oper} {a : Act} {Q : Exit → Act → World → Prop} (hgd : o.guard = none) (s x : Operand) (t : TypeId)
    (ho : o.op = .call { callee := .builtin .append, args := #[s, x], argTypes := #[t, t] })
    (base : Nat) (e : TypeId) (i : TypeInfo) (z : Value) (size bytes : Nat) (ht : P.underlying t = some (.slice e)) (hi : P.info? e = some i) (hz : i.zero = some z)
    (hsize : i.size = size) (hby : i.bytes = bytes) (hzs : z.cells.size = size) (hsz : 0 < size)
    (v : Value) (n : Nat) (xs : List Value) (hv : a.eval s = v) (hown : w.ownsRow base e size v n xs)
    (B m : Nat) (src : Value) (news : List Value) (hx : a.eval x = src) (hs : Sl w B size src m news) (h1 : ∀ u ∈ news, u.oneCell' = true)
    (hroom : (n + m) * bytes ≤ 140737488355328) (h63 : n + m ≤ maxLen) (hbase : base ≤ w.heap.size)
    (h : ∀ v' w', w'.ownsRow base e size v' (n + m) (xs ++ news) → w.grownBy w' v.ownBlock → (v'.ownBlock = v.ownBlock ∨ v'.ownBlock = some w.heap.size) → wpList P ops Q rest (a.put o.dst v') w') : wpList P ops Q (o :: rest) a w :=
  wpList_plain hgd fun _ hK => wp_app w s x t ho base e i z size bytes ht hi hz hsize hby hzs hsz v n xs hv hown B m src news hx hs h1 hroom h63 hbase fun v' w' h2 h3 h4 => hK _ _ (h v' w' h2 h3 h4)
end

theorem step_app {P : Program} {w : World} {ops : Array Oper} {o : Oper} {a : Act} {K : Act → World → Prop} {Q : Exit → Act → World → Prop} {E : Prop} (hgd : o.guard = none) (s x : Operand) (t : TypeId)
    (ho : o.op = .call { callee := .builtin .append, args := #[s, x], argTypes := #[t, t] })
    (base : Nat) (e : TypeId) (i : TypeInfo) (z : Value) (size bytes : Nat) (ht : P.underlying t = some (.slice e)) (hi : P.info? e = some i) (hz : i.zero = some z)
    (hsize : i.size = size) (hby : i.bytes = bytes) (hzs : z.cells.size = size) (hsz : 0 < size)
    (v : Value) (n : Nat) (xs : List Value) (hv : a.eval s = v) (hown : w.ownsRow base e size v n xs)
    (B m : Nat) (src : Value) (news : List Value) (hx : a.eval x = src) (hs : Sl w B size src m news) (h1 : ∀ u ∈ news, u.oneCell' = true)
    (hroom : (n + m) * bytes ≤ 140737488355328) (h63 : n + m ≤ maxLen) (hbase : base ≤ w.heap.size)
    (h : ∀ v' w', w'.ownsRow base e size v' (n + m) (xs ++ news) → w.grownBy w' v.ownBlock → (v'.ownBlock = v.ownBlock ∨ v'.ownBlock = some w.heap.size) → K (a.put o.dst v') w') :
    if Region.wanted o (yielded ops a.tmps) = true then Oper.wp P o a w K Q else E := by
  have hw : Region.wanted o (yielded ops a.tmps) = true := by simp [Region.wanted, hgd]
  rw [if_pos hw]
  exact wp_app w s x t ho base e i z size bytes ht hi hz hsize hby hzs hsz v n xs hv hown B m src news hx hs h1 hroom h63 hbase h

/-- The empty slice that a literal '[]T{}' leaves: a row of the call's own. -/
theorem own_empty (w : World) (e : TypeId) (size : Nat) : (w.alloc (.cells #[] e)).ownsRow w.heap.size e size (.slice (some ⟨w.heap.size, 0, none⟩) 0 0) 0 [] :=
  World.ownsRow_made w #[] 0 (Nat.le_refl _) (Nat.zero_le _) (by simp)

/-- A cut of a slice: the first element left out is number lo, hi the first one behind. -/
theorem Sl.cut {w : World} {B size n c lo hi : Nat} {A : Option Addr} {xs : List Value} (h : Sl w B size (.slice A n c) n xs) (h1 : lo ≤ hi) (h2 : hi ≤ n) (h3 : 0 < size) :
    ∀ A' c', hi - lo ≤ c' → c' ≤ maxLen → (lo < hi → A' = A.map fun ad => ad.add (lo * size)) → Sl w B size (.slice A' (hi - lo) c') (hi - lo) ((xs.drop (lo * size)).take ((hi - lo) * size)) := by
  intro A' c' hc' hm' hA
  obtain ⟨hl, A0, c0, e, hc, hm, hr⟩ := h
  simp only [Value.slice.injEq] at e
  obtain ⟨rfl, _, rfl⟩ := e
  have hmul : hi * size ≤ n * size := Nat.mul_le_mul_right _ h2
  have hsub : (hi - lo) * size = hi * size - lo * size := Nat.sub_mul _ _ _
  refine ⟨?_, A', c', rfl, hc', hm', fun hpos => ?_⟩
  · rw [List.length_take, List.length_drop, hl, Nat.min_eq_left]
    omega
  · have hlh : lo < hi := Nat.lt_of_sub_pos hpos
    obtain ⟨b, off, rfl, hb, hcell⟩ := hr (Nat.lt_of_lt_of_le (Nat.lt_of_le_of_lt (Nat.zero_le _) hlh) h2)
    have hadd : (⟨b, off, none⟩ : Addr).add (lo * size) = ⟨b, off + lo * size, none⟩ := by unfold Addr.add; split <;> simp_all
    refine ⟨b, off + lo * size, by rw [hA hlh]; simp [hadd], hb, fun j u hu => ?_⟩
    rw [List.getElem?_take] at hu
    split at hu
    · rw [List.getElem?_drop] at hu
      have := hcell _ u hu
      rwa [← Nat.add_assoc] at this
    · cases hu

theorem below_app {a w w1 : World} {B base size n : Nat} {e : TypeId} {v : Value} {xs : List Value} (hg : w.grownBy w1 v.ownBlock) (hown : w.ownsRow base e size v n xs) (hbase : B ≤ base) (hB : B ≤ w.heap.size) (hb : Below B a w) : Below B a w1 :=
  hb.grown hg hB fun k hk => Nat.le_trans hbase (hown.lt k hk).1
theorem below_app_empty {w w1 : World} {e : TypeId} (hg : (w.alloc (.cells #[] e)).grownBy w1 (Value.slice (some ⟨w.heap.size, 0, none⟩) 0 0).ownBlock) : Below w.heap.size w w1 :=
  below_app (size := 1) (e := e) hg (own_empty w _ _) (Nat.le_refl _) (by simp) ((Below.refl _ _).alloc (Nat.le_refl _) _)

theorem grown_undrew {w w1 : World} {row : Option Nat} (h : w.drew.grownBy w1 row) : w.grownBy w1 row := ⟨h.os, h.tape, h.output, h.size, h.block⟩

/-! ### slice expressions on slices -/
/-- The address of a cut: as the model computes it. -/
def cutA (A : Option Addr) (m l size : Nat) : Option Addr := if m = l then A else A.map fun ad => ad.add (l * size)
theorem run_bound {P : Program} (i : Int) (y : Nat) (code : BoundsCode) (n : Nat) (h : i = n) (hn : n ≤ y) (w : World) : (Instr.sliceBound (.int .i64 i) y code).run P w = .ok n w := by
  subst h
  have : (0 : Int) ≤ n ∧ (n : Int) ≤ y := by omega
  simp [Instr.sliceBound, asIntOf, this, go_sem]
theorem run_cut3 {P : Program} {t e : TypeId} {size : Nat} (ht : P.underlying t = some (.slice e)) (hs : ∀ w, (sizeOf e).run P w = .ok size w) (A : Option Addr) (len cap : Nat) (lo hi mx : Int) (l h m : Nat) (e1 : lo = l) (e2 : hi = h) (e3 : mx = m) (h1 : l ≤ h) (h2 : h ≤ m) (h3 : m ≤ cap) (w : World) :
    (Instr.slice t (.slice A len cap) (some (.int .i64 lo)) (some (.int .i64 hi)) (some (.int .i64 mx))).run P w = .ok (.slice (cutA A m l size) (h - l) (m - l)) w := by
  have b1 : ∀ code, (Instr.sliceBound (.int .i64 mx) cap code).run P w = .ok m w := fun code => run_bound _ _ code _ e3 h3 w
  have b2 : ∀ code, (Instr.sliceBound (.int .i64 hi) m code).run P w = .ok h w := fun code => run_bound _ _ code _ e2 h2 w
  have b3 : ∀ code, (Instr.sliceBound (.int .i64 lo) h code).run P w = .ok l w := fun code => run_bound _ _ code _ e1 h1 w
  simp only [Instr.slice, Sem.run_bind, run_underlying ht, Result.andThen_ok, Instr.sliceBounds, b1, b2, b3, Sem.run_pure, hs, cutA]
theorem run_cutHM {P : Program} {t e : TypeId} {size : Nat} (ht : P.underlying t = some (.slice e)) (hs : ∀ w, (sizeOf e).run P w = .ok size w) (A : Option Addr) (len cap : Nat) (hi mx : Int) (h m : Nat) (e2 : hi = h) (e3 : mx = m) (h2 : h ≤ m) (h3 : m ≤ cap) (w : World) :
    (Instr.slice t (.slice A len cap) none (some (.int .i64 hi)) (some (.int .i64 mx))).run P w = .ok (.slice (cutA A m 0 size) (h - 0) (m - 0)) w := by
  have b1 : ∀ code, (Instr.sliceBound (.int .i64 mx) cap code).run P w = .ok m w := fun code => run_bound _ _ code _ e3 h3 w
  have b2 : ∀ code, (Instr.sliceBound (.int .i64 hi) m code).run P w = .ok h w := fun code => run_bound _ _ code _ e2 h2 w
  simp only [Instr.slice, Sem.run_bind, run_underlying ht, Result.andThen_ok, Instr.sliceBounds, b1, b2, Sem.run_pure, hs, cutA]
theorem run_cutLH {P : Program} {t e : TypeId} {size : Nat} (ht : P.underlying t = some (.slice e)) (hs : ∀ w, (sizeOf e).run P w = .ok size w) (A : Option Addr) (len cap : Nat) (lo hi : Int) (l h : Nat) (e1 : lo = l) (e2 : hi = h) (h1 : l ≤ h) (h2 : h ≤ cap) (w : World) :
    (Instr.slice t (.slice A len cap) (some (.int .i64 lo)) (some (.int .i64 hi)) none).run P w = .ok (.slice (cutA A cap l size) (h - l) (cap - l)) w := by
  have b2 : ∀ code, (Instr.sliceBound (.int .i64 hi) cap code).run P w = .ok h w := fun code => run_bound _ _ code _ e2 h2 w
  have b3 : ∀ code, (Instr.sliceBound (.int .i64 lo) h code).run P w = .ok l w := fun code => run_bound _ _ code _ e1 h1 w
  simp only [Instr.slice, Sem.run_bind, run_underlying ht, Result.andThen_ok, Instr.sliceBounds, b2, b3, Sem.run_pure, hs, cutA]
theorem run_cutH {P : Program} {t e : TypeId} {size : Nat} (ht : P.underlying t = some (.slice e)) (hs : ∀ w, (sizeOf e).run P w = .ok size w) (A : Option Addr) (len cap : Nat) (hi : Int) (h : Nat) (e2 : hi = h) (h2 : h ≤ cap) (w : World) :
    (Instr.slice t (.slice A len cap) none (some (.int .i64 hi)) none).run P w = .ok (.slice (cutA A cap 0 size) (h - 0) (cap - 0)) w := by
  have b2 : ∀ code, (Instr.sliceBound (.int .i64 hi) cap code).run P w = .ok h w := fun code => run_bound _ _ code _ e2 h2 w
  simp only [Instr.slice, Sem.run_bind, run_underlying ht, Result.andThen_ok, Instr.sliceBounds, b2, Sem.run_pure, hs, cutA]
theorem run_cutL {P : Program} {t e : TypeId} {size : Nat} (ht : P.underlying t = some (.slice e)) (hs : ∀ w, (sizeOf e).run P w = .ok size w) (A : Option Addr) (len cap : Nat) (lo : Int) (l : Nat) (e1 : lo = l) (h1 : l ≤ len) (w : World) :
    (Instr.slice t (.slice A len cap) (some (.int .i64 lo)) none none).run P w = .ok (.slice (cutA A cap l size) (len - l) (cap - l)) w := by
  have b3 : ∀ code, (Instr.sliceBound (.int .i64 lo) len code).run P w = .ok l w := fun code => run_bound _ _ code _ e1 h1 w
  simp only [Instr.slice, Sem.run_bind, run_underlying ht, Result.andThen_ok, Instr.sliceBounds, b3, Sem.run_pure, hs, cutA]
theorem Sl.cutA {w : World} {B size n c : Nat} {A : Option Addr} {xs : List Value} (h : Sl w B size (.slice A n c) n xs) (l hi m : Nat) (h1 : l ≤ hi) (h2 : hi ≤ n) (h4 : hi ≤ m) (h5 : m ≤ maxLen) (h3 : 0 < size) :
    Sl w B size (.slice (cutA A m l size) (hi - l) (m - l)) (hi - l) ((xs.drop (l * size)).take ((hi - l) * size)) :=
  h.cut h1 h2 h3 _ _ (by omega) (by omega) fun hlt => by unfold Proofs.YtkfmdkogifmfmaaDoor.cutA; rw [if_neg (by omega)]
theorem SlB.cut {w : World} {B c : Nat} {A : Option Addr} {xs : List UInt8} (h : SlB w B (.slice A xs.length c) xs) (l hi m : Nat) (h1 : l ≤ hi) (h2 : hi ≤ xs.length) (h4 : hi ≤ m) (h5 : m ≤ maxLen) :
    Sl w B 1 (.slice (cutA A m l 1) (hi - l) (m - l)) (hi - l) (u8s ((xs.drop l).take (hi - l))) := by
  have := Sl.cutA h l hi m h1 h2 h4 h5 (by decide)
  simpa [u8s, List.map_take, List.map_drop] using this
theorem own_empty_at {w : World} {e : TypeId} {size g base : Nat} (hg : g = w.heap.size) (hb : base ≤ g) : (w.alloc (.cells #[] e)).ownsRow base e size (.slice (some ⟨g, 0, none⟩) 0 0) 0 [] := by
  subst hg; exact own_base (own_empty w e size) hb
theorem below_app_empty_at {w w1 : World} {e : TypeId} {g : Nat} (h : (w.alloc (.cells #[] e)).grownBy w1 (Value.slice (some ⟨g, 0, none⟩) 0 0).ownBlock) (hg : g = w.heap.size) : Below w.heap.size w w1 := by
  subst hg; exact below_app_empty h
end Go.Proofs.YtkfmdkogifmfmaaDoor
