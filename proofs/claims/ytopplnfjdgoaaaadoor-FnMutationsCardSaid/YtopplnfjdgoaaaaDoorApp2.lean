/- append onto a row of the call's own: the cells that were there stay. No condition but room. -/
import Derived.Test.YtopplnfjdgoaaaaDoorApp
namespace Go.Proofs.YtopplnfjdgoaaaaDoor
open Go.RowKit

section
variable {P : Program} (w : World)
theorem app_keep (base : Nat) (t ty e : TypeId) (i : TypeInfo) (z : Value) (size bytes : Nat) (ht : P.underlying t = some (.slice e)) (hi : P.info? e = some i) (hz : i.zero = some z)
    (hsize : i.size = size) (hby : i.bytes = bytes) (hzs : z.cells.size = size) (hsz : 0 < size)
    (v : Value) (n : Nat) (xs : List Value) (hown : w.ownsRow base e size v n xs)
    (B m : Nat) (src : Value) (news : List Value) (hs : Sl w B size src m news) (h1' : ∀ u ∈ news, u.oneCell' = true) (hm0 : 0 < m)
    (hroom : (n + m) * bytes ≤ 140737488355328) (h63 : n + m ≤ maxLen)
    (v' : Value) (w' : World) (hrun : (Builtin.append_ #[t, t] ty #[v, src]).run P w = .ok v' w') (hown' : w'.ownsRow base e size v' (n + m) (xs ++ news)) (hd : v'.ownBlock = v.ownBlock ∨ v'.ownBlock = some w.heap.size) :
    ∀ g cap, v = .slice (some ⟨g, 0, none⟩) n cap → ∀ j, j < n * size → w'.cell? ⟨g, j, none⟩ = w.cell? ⟨g, j, none⟩ := by
  rintro g cap rfl j hj
  have h1 := hown.cellAt j hj
  rcases hown.2 with ⟨h0, _⟩ | ⟨g', cap', cur, hv, hbg, hg, hnc, hcm, hcs, htake⟩
  · cases h0
  have hglt : g < w.heap.size := hown.lt g rfl |>.2
  rcases hd with hd | hd
  · rcases hown'.2 with ⟨rfl, _⟩ | ⟨g2, cap2, cur2, rfl, hb2, hg2, hnc2, hcm2, hcs2, ht2⟩
    · cases hd
    · have : g2 = g := by simpa [Value.ownBlock] using hd
      subst this
      have h2 := hown'.cellAt j (Nat.lt_of_lt_of_le hj (Nat.mul_le_mul_right _ (by omega)))
      rw [h2, h1, List.getElem?_append_left (by rw [hown.1]; exact hj)]
  · subst hsize hby
    obtain ⟨hl, A, c, rfl, hc, hm, hrr⟩ := hs
    obtain ⟨b, off, rfl, hb, hcell⟩ := hrr hm0
    have hadd : ∀ j, (⟨b, off, none⟩ : Addr).add j = ⟨b, off + j, none⟩ := by intro j; unfold Addr.add; split <;> simp_all
    have hnews : ∀ j u, news[j]? = some u → w.cell? ((⟨b, off, none⟩ : Addr).add j) = some u := fun j u hu => by rw [hadd]; exact hcell j u hu
    simp only [Value.slice.injEq, Option.some.injEq, Addr.mk.injEq, and_true, true_and] at hv
    obtain ⟨rfl, rfl⟩ := hv
    unfold maxLen at h63
    by_cases hr : n + m ≤ cap
    · have hfit : n * i.size + news.length ≤ cur.size := by rw [hl, hcs, ← Nat.add_mul]; exact Nat.mul_le_mul_right _ hr
      have e1 := run_append_room (P := P) w t ty e i ht hi g n cap cur hg ⟨b, off, none⟩ m c news hl hnews h1' hr hfit
      rw [hrun] at e1
      simp only [Result.ok.injEq] at e1
      rw [e1.1] at hd
      simp only [Value.ownBlock, Option.some.injEq] at hd
      omega
    · have holds : ∀ j u, xs[j]? = some u → w.cell? ((⟨g, 0, none⟩ : Addr).add j) = some u := hown.cells (g := g) rfl
      have e1 := run_append_grow (P := P) w t ty e i z ht hi hz ⟨g, 0, none⟩ n cap xs hown.1 holds ⟨b, off, none⟩ m c news hl hnews (by omega) (by omega) (growslice_fits (by omega) hroom)
      rw [hrun] at e1
      simp only [Result.ok.injEq] at e1
      rw [e1.2]
      have hbel : Below w.heap.size w (w.drew.alloc (.cells (xs.toArray ++ news.toArray ++ Builtin.zeroCells z.cells (grownCap w (n + m) cap e - (n + m))) e)) := (Below.refl w.heap.size w).drew.alloc (Nat.le_refl _) _
      exact hbel.cell (p := ⟨g, j, none⟩) hglt

theorem wp_app2 {o : Oper} {a : Act} {K : Act → World → Prop} {Q : Exit → Act → World → Prop} (s x : Operand) (t : TypeId)
    (ho : o.op = .call { callee := .builtin .append, args := #[s, x], argTypes := #[t, t] })
    (base : Nat) (e : TypeId) (i : TypeInfo) (z : Value) (size bytes : Nat) (ht : P.underlying t = some (.slice e)) (hi : P.info? e = some i) (hz : i.zero = some z)
    (hsize : i.size = size) (hby : i.bytes = bytes) (hzs : z.cells.size = size) (hsz : 0 < size)
    (v : Value) (n : Nat) (xs : List Value) (hv : a.eval s = v) (hown : w.ownsRow base e size v n xs)
    (B m : Nat) (src : Value) (news : List Value) (hx : a.eval x = src) (hs : Sl w B size src m news) (h1 : ∀ u ∈ news, u.oneCell' = true) (hm0 : 0 < m)
    (hroom : (n + m) * bytes ≤ 140737488355328) (h63 : n + m ≤ maxLen) (hbase : base ≤ w.heap.size)
    (h : ∀ v' w', w'.ownsRow base e size v' (n + m) (xs ++ news) → w.grownBy w' v.ownBlock → (v'.ownBlock = v.ownBlock ∨ v'.ownBlock = some w.heap.size) → (∀ g cap, v = .slice (some ⟨g, 0, none⟩) n cap → ∀ j, j < n * size → w'.cell? ⟨g, j, none⟩ = w.cell? ⟨g, j, none⟩) → K (a.put o.dst v') w') : o.wp P a w K Q := by
  obtain ⟨v', w', hrun, h2, h3, h4⟩ := run_app (P := P) w base t o.type e i z size bytes ht hi hz hsize hby hzs hsz v n xs hown B m src news hs h1 hroom h63 hbase
  have h5 := app_keep (P := P) w base t o.type e i z size bytes ht hi hz hsize hby hzs hsz v n xs hown B m src news hs h1 hm0 hroom h63 v' w' hrun h2 h4
  unfold Oper.wp execOp
  simp only [ho, resolve, invoke, builtin, Sem.run_bind, Sem.run_pure, Result.andThen_ok, List.map_toArray, List.map_cons, List.map_nil, hv, hx, hrun]
  exact h v' w' h2 h3 h4 h5
end
theorem step_app2 {P : Program} {w : World} {ops : Array Oper} {o : Oper} {a : Act} {K : Act → World → Prop} {Q : Exit → Act → World → Prop} {E : Prop} (hgd : o.guard = none) (s x : Operand) (t : TypeId)
    (ho : o.op = .call { callee := .builtin .append, args := #[s, x], argTypes := #[t, t] })
    (base : Nat) (e : TypeId) (i : TypeInfo) (z : Value) (size bytes : Nat) (ht : P.underlying t = some (.slice e)) (hi : P.info? e = some i) (hz : i.zero = some z)
    (hsize : i.size = size) (hby : i.bytes = bytes) (hzs : z.cells.size = size) (hsz : 0 < size)
    (v : Value) (n : Nat) (xs : List Value) (hv : a.eval s = v) (hown : w.ownsRow base e size v n xs)
    (B m : Nat) (src : Value) (news : List Value) (hx : a.eval x = src) (hs : Sl w B size src m news) (h1 : ∀ u ∈ news, u.oneCell' = true) (hm0 : 0 < m)
    (hroom : (n + m) * bytes ≤ 140737488355328) (h63 : n + m ≤ maxLen) (hbase : base ≤ w.heap.size)
    (h : ∀ v' w', w'.ownsRow base e size v' (n + m) (xs ++ news) → w.grownBy w' v.ownBlock → (v'.ownBlock = v.ownBlock ∨ v'.ownBlock = some w.heap.size) → (∀ g cap, v = .slice (some ⟨g, 0, none⟩) n cap → ∀ j, j < n * size → w'.cell? ⟨g, j, none⟩ = w.cell? ⟨g, j, none⟩) → K (a.put o.dst v') w') :
    if Region.wanted o (yielded ops a.tmps) = true then Oper.wp P o a w K Q else E := by
  have hw : Region.wanted o (yielded ops a.tmps) = true := by simp [Region.wanted, hgd]
  rw [if_pos hw]
  exact wp_app2 w s x t ho base e i z size bytes ht hi hz hsize hby hzs hsz v n xs hv hown B m src news hx hs h1 hm0 hroom h63 hbase h
end Go.Proofs.YtopplnfjdgoaaaaDoor
