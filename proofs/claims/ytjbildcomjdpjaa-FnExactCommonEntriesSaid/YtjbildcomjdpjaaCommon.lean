/- Entries as keys of a map; the walks of CommonEntries. Conditions: the slices read as lists of entries. -/
import Derived.Test.YtjbildcomjdpjaaRows
import Derived.Test.YtjbildcomjdpjaaEntryS
import Derived.Test.YtjbildcomjdpjaaApp
import Derived.Test.YtjbildcomjdpjaaOpenEntry
import Derived.Maps.OwnSet
import Derived.Maps.OwnOps
import Derived.DeepKeys4
import Derived.WalkSpells
import Derived.WalkLawsBesides
namespace Go.Proofs.Ytjbildcomjdpjaa
open Go.RowKit Go.Maps
theorem laidAll : laidOutB Try.prog = true := by kernel_rfl
theorem entRow : (54 : TypeId) < Try.prog.types.size := of_decide_eq_true (by kernel_rfl)
theorem entWide : (match Try.prog.underlying 54 with | some (.array _ _) | some (.struct _) => true | _ => false) = true := by kernel_rfl
theorem entKeyed : Keyed Try.prog 54 := Keyed.of_law (deep_law_laid laidAll (m := 3) (by omega) entRow (by kernel_rfl) entWide)
theorem wf_i64 {n : Int} (h : InI64 n) : (Lit.int .i64 n).wf = true := by
  obtain ⟨h0, h1⟩ := h
  simp only [Lit.wf, Bool.and_eq_true, decide_eq_true_eq]
  exact ⟨h0, h1⟩
/-- A struct of a string and three ints is a key. -/
theorem keyOf_four {P : Program} {k s i : TypeId} {f0 f1 f2 f3 : Field} (hu : P.underlying k = some (.struct #[f0, f1, f2, f3])) (hs : P.underlying s = some .string) (hi : P.underlying i = some (.int .i64))
    (hk : P.keyType k = true) (hc : P.cellsOf k = 4) (cs : P.cellsOf s = 1) (ci : P.cellsOf i = 1) (hpos : 0 < P.types.size)
    (t0 : f0.type = s) (t1 : f1.type = i) (t2 : f2.type = i) (t3 : f3.type = i) (o0 : f0.offset = 0) (o1 : f1.offset = 1) (o2 : f2.offset = 2) (o3 : f3.offset = 3)
    (n0 : (f0.name != "_") = true) (n1 : (f1.name != "_") = true) (n2 : (f2.name != "_") = true) (n3 : (f3.name != "_") = true)
    (p : ByteArray) (a b c : Int) (hp : p.size ≤ maxLen) (ha : (Lit.int .i64 a).wf = true) (hb : (Lit.int .i64 b).wf = true) (hcw : (Lit.int .i64 c).wf = true) :
    ∃ l, keyOf P k (.agg #[.string p, .int .i64 a, .int .i64 b, .int .i64 c]) = some l := by
  obtain ⟨m, hm⟩ : ∃ m, P.types.size = m + 1 := ⟨P.types.size - 1, by omega⟩
  have hall : (#[f0, f1, f2, f3] : Array Field).all (·.name != "_") = true := by simp [n0, n1, n2, n3]
  unfold keyOf
  rw [hu, hk, hm]
  have e0 : P.keyLits (m + 1) s [.string p] = some [.string p.data.toList] := by simp [Program.keyLits, hs, hp]
  have e1 : ∀ x : Int, (Lit.int .i64 x).wf = true → P.keyLits (m + 1) i [.int .i64 x] = some [.int .i64 x] := by intro x hx; simp [Program.keyLits, hi, hx]
  have e2 : P.keyLits (m + 1 + 1) k [.string p, .int .i64 a, .int .i64 b, .int .i64 c] = some [.string p.data.toList, .int .i64 a, .int .i64 b, .int .i64 c] := by
    conv => lhs; unfold Program.keyLits
    simp only [hu]
    simp only [List.length_cons, List.length_nil, hc, hall, and_self, if_true]
    simp [t0, t1, t2, t3, o0, o1, o2, o3, cs, ci, e0, e1 a ha, e1 b hb, e1 c hcw]
  have hf : (Value.agg #[.string p, .int .i64 a, .int .i64 b, .int .i64 c]).formed P k = true := by simp [Value.formed, hu, hc]
  rw [hf]
  exact ⟨_, by simp [Value.cells, e2]; rfl⟩
theorem keyOf_ent (e : Ent) (h : e.ok) : ∃ l, keyOf Try.prog 54 (entV e) = some l :=
  keyOf_four (s := 9) (i := 3) Try.underlying54 Try.underlying9 Try.underlying3 (by kernel_rfl) (by kernel_rfl) (by kernel_rfl) (by kernel_rfl)
    (Nat.lt_of_le_of_lt (Nat.zero_le _) entRow) rfl rfl rfl rfl rfl rfl rfl rfl (by decide) (by decide) (by decide) (by decide) _ _ _ _ h.1 (wf_i64 h.2.1) (wf_i64 h.2.2.1) (wf_i64 h.2.2.2)
/-- The key that an entry is. -/
noncomputable def KL (e : Ent) : Lit := (keyOf Try.prog 54 (entV e)).getD (.bool false)
theorem keyOf_KL (e : Ent) (h : e.ok) : keyOf Try.prog 54 (entV e) = some (KL e) := by
  obtain ⟨l, hl⟩ := keyOf_ent e h
  unfold KL; rw [hl]; rfl
theorem KL_inj {e e' : Ent} (h : e.ok) (h' : e'.ok) (hk : KL e = KL e') : e = e' := by
  have h1 := keyOf_KL e h
  rw [hk] at h1
  have h2 := entKeyed.inj h1 (keyOf_KL e' h')
  obtain ⟨p, a, b, c⟩ := e
  obtain ⟨p', a', b', c'⟩ := e'
  simp only [entV, Value.agg.injEq, Array.mk.injEq, List.cons.injEq, Value.string.injEq, Value.int.injEq, true_and, and_true] at h2
  obtain ⟨rfl, rfl, rfl, rfl⟩ := h2
  rfl
section
variable {H : Type} {P : Program} {w : World} {b n : Nat} {D : DataW H} {k e t : TypeId}
theorem plainElem_bool_inv (he : P.underlying e = some .bool) {v : Value} {z : DataW H × List MemPlace} (h : plainElem P e v = some z) : ∃ x, v = .bool x ∧ z = (.lit (.bool x), []) := by
  unfold plainElem at h
  rw [he] at h
  cases v <;> simp at h
  exact ⟨_, rfl, h.symm⟩
theorem ownsMap_lookup_bool (h : w.ownsMap P k (plainElem P e) b n D) (K : Keyed P k) (ht : P.underlying t = some (.map k e)) (he : P.underlying e = some .bool) (hz : (zeroValue e).run P w = .ok (.bool false) w)
    {key : Value} {kl : Lit} (hkey : keyOf P k key = some kl) (x : Bool) (hat : D.atKey kl (.lit (.bool false)) = .lit (.bool x)) : (Instr.lookup t (.map (some b)) key false).run P w = .ok (.bool x) w := by
  obtain ⟨v, ps, hrun, hv⟩ := h.lookup K ht hz (plainElem_bool he false) hkey
  obtain ⟨y, rfl, hy⟩ := plainElem_bool_inv he hv
  rw [hat] at hy
  simp only [Prod.mk.injEq, DataW.lit.injEq, Lit.bool.injEq] at hy
  rw [hy.1]; exact hrun
/-- A look-up of a bool, at the operation. -/
theorem wpList_lookup_own_bool {ops : Array Oper} {rest : List Oper} {o : Oper} {a : Act} {Q : Exit → Act → World → Prop}
    (hg : o.guard = none) (m x : Operand) (t : TypeId) (hop : o.op = Op.lookup t m x false)
    (k e : TypeId) (K : Keyed P k) (ht : P.underlying t = some (.map k e)) (he : P.underlying e = some .bool) (hz : (zeroValue e).run P w = .ok (.bool false) w) (b n : Nat) (D : DataW H)
    (hm : a.eval m = .map (some b)) (hown : w.ownsMap P k (plainElem P e) b n D) (key : Value) (kl : Lit) (hx : a.eval x = key) (hkey : keyOf P k key = some kl)
    (y : Bool) (hat : D.atKey kl (.lit (.bool false)) = .lit (.bool y))
    (hK : wpList P ops Q rest (a.put o.dst (.bool y)) w) : wpList P ops Q (o :: rest) a w := by
  refine wpList_plain hg fun K' hK' => ?_
  have hrun := ownsMap_lookup_bool hown K ht he hz hkey y hat
  unfold Oper.wp
  simp [execOp, hop, hm, hx, hrun, Result.andThen]
  exact hK' _ _ hK
end
end Go.Proofs.Ytjbildcomjdpjaa
