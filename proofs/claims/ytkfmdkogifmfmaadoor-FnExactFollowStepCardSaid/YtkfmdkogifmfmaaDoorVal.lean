/- Values: the data of a value, how it reads in memory, and an argument opened. No condition. -/
import Derived.Test.YtkfmdkogifmfmaaDoorRows
import Derived.Test.YtkfmdkogifmfmaaDoorOpen
import Derived.Test.YtkfmdkogifmfmaaDoorByte
import Derived.Lib.SmallJoins
namespace Go.Proofs.YtkfmdkogifmfmaaDoor
set_option linter.unusedSimpArgs false
set_option linter.unusedVariables false
open Go.ChangeShapes Go.WideShapes Go.ChangeAt Go.RowKit Go.Deep

/-- A value: its number, its bytes, its items. -/
inductive Val where
  | mk (n : Int) (b : List UInt8) (items : List Val)
/-- A value in memory: with the slices that hold its bytes and its items. -/
inductive VM where
  | mk (n : Int) (b : List UInt8) (vb vi : Value) (items : List VM)
namespace Val
def n : Val → Int | mk n _ _ => n
def b : Val → List UInt8 | mk _ b _ => b
def items : Val → List Val | mk _ _ l => l
@[simp] theorem n_mk (n b l) : (mk n b l).n = n := rfl
@[simp] theorem b_mk (n b l) : (mk n b l).b = b := rfl
@[simp] theorem items_mk (n b l) : (mk n b l).items = l := rfl
theorem eta (x : Val) : x = mk x.n x.b x.items := by cases x; rfl
end Val
namespace VM
def n : VM → Int | mk n _ _ _ _ => n
def b : VM → List UInt8 | mk _ b _ _ _ => b
def vb : VM → Value | mk _ _ v _ _ => v
def vi : VM → Value | mk _ _ _ v _ => v
def items : VM → List VM | mk _ _ _ _ l => l
@[simp] theorem n_mk (n b vb vi l) : (mk n b vb vi l).n = n := rfl
@[simp] theorem b_mk (n b vb vi l) : (mk n b vb vi l).b = b := rfl
@[simp] theorem vb_mk (n b vb vi l) : (mk n b vb vi l).vb = vb := rfl
@[simp] theorem vi_mk (n b vb vi l) : (mk n b vb vi l).vi = vi := rfl
@[simp] theorem items_mk (n b vb vi l) : (mk n b vb vi l).items = l := rfl
end VM
theorem Val.induct {P : Val → Prop} (h : ∀ n b l, (∀ x ∈ l, P x) → P (.mk n b l)) : ∀ x, P x
  | .mk n b l => h n b l fun x _ => Val.induct h x
termination_by x => SizeOf.sizeOf x
decreasing_by
  have := List.sizeOf_lt_of_mem ‹_›
  simp only [Val.mk.sizeOf_spec]
  omega
theorem VM.induct {P : VM → Prop} (h : ∀ n b vb vi l, (∀ x ∈ l, P x) → P (.mk n b vb vi l)) : ∀ x, P x
  | .mk n b vb vi l => h n b vb vi l fun x _ => VM.induct h x
termination_by x => SizeOf.sizeOf x
decreasing_by
  have := List.sizeOf_lt_of_mem ‹_›
  simp only [VM.mk.sizeOf_spec]
  omega
mutual
/-- The data of a value in memory. -/
def VM.d : VM → Val
  | .mk n b _ _ l => .mk n b (VM.ds l)
def VM.ds : List VM → List Val
  | [] => []
  | x :: l => x.d :: VM.ds l
end
theorem VM.ds_map : ∀ l : List VM, VM.ds l = l.map VM.d
  | [] => by rw [VM.ds]; rfl
  | x :: l => by rw [VM.ds, VM.ds_map l]; rfl
theorem VM.d_mk (n : Int) (b : List UInt8) (vb vi : Value) (l : List VM) : (VM.mk n b vb vi l).d = .mk n b (l.map VM.d) := by rw [VM.d, VM.ds_map]
@[simp] theorem VM.d_n (x : VM) : x.d.n = x.n := by cases x; rw [VM.d_mk]; rfl
@[simp] theorem VM.d_b (x : VM) : x.d.b = x.b := by cases x; rw [VM.d_mk]; rfl
@[simp] theorem VM.d_items (x : VM) : x.d.items = x.items.map VM.d := by cases x; rw [VM.d_mk]; rfl
mutual
/-- What a value counts against a limit: its bytes and its items, and theirs. -/
def Val.size : Val → Nat
  | .mk _ b l => b.length + Val.sizes l
def Val.sizes : List Val → Nat
  | [] => 0
  | x :: l => 1 + x.size + Val.sizes l
end
theorem Val.size_mk (n : Int) (b : List UInt8) (l : List Val) : (Val.mk n b l).size = b.length + Val.sizes l := by rw [Val.size]
theorem Val.sizes_nil : Val.sizes [] = 0 := by rw [Val.sizes]
theorem Val.sizes_cons (x : Val) (l : List Val) : Val.sizes (x :: l) = 1 + x.size + Val.sizes l := by rw [Val.sizes]
theorem Val.sizes_append (l l' : List Val) : Val.sizes (l ++ l') = Val.sizes l + Val.sizes l' := by
  induction l with
  | nil => simp [Val.sizes_nil]
  | cons x l ih => rw [List.cons_append, Val.sizes_cons, Val.sizes_cons, ih]; omega
theorem Val.length_le : ∀ l : List Val, l.length ≤ Val.sizes l
  | [] => Nat.zero_le _
  | x :: l => by have := Val.length_le l; rw [Val.sizes_cons, List.length_cons]; omega
theorem Val.size_le_of_mem {x : Val} {l : List Val} (h : x ∈ l) : 1 + x.size ≤ Val.sizes l := by
  induction l with
  | nil => simp at h
  | cons y l ih =>
    rw [Val.sizes_cons]
    simp only [List.mem_cons] at h
    rcases h with rfl | h
    · omega
    · have := ih h; omega
/-- The cells of a value. -/
def vmCells (x : VM) : List Value := [.int .i64 x.n, x.vb, x.vi]
theorem vmCells_length (x : VM) : (vmCells x).length = 3 := rfl
/-- A value as it is passed. -/
def vmV (x : VM) : Value := .agg #[.int .i64 x.n, x.vb, x.vi]
/-- The slices of a value read as its bytes and its items, and so do theirs. -/
inductive VM.rd (w : World) (B : Nat) : VM → Prop
  | mk {n : Int} {b : List UInt8} {vb vi : Value} {l : List VM} (hb : SlB w B vb b) (hi : Sl w B 3 vi l.length (l.flatMap vmCells)) (hx : ∀ x ∈ l, VM.rd w B x) : VM.rd w B (.mk n b vb vi l)
/-- The slice v reads as the values l. -/
def SlV (w : World) (B : Nat) (v : Value) (l : List VM) : Prop := Sl w B 3 v l.length (l.flatMap vmCells) ∧ ∀ x ∈ l, x.rd w B
theorem VM.rd.bytes {w : World} {B : Nat} {x : VM} (h : x.rd w B) : SlB w B x.vb x.b := by cases h; assumption
theorem VM.rd.its {w : World} {B : Nat} {x : VM} (h : x.rd w B) : SlV w B x.vi x.items := by
  cases h with
  | mk hb hi hx => exact ⟨hi, hx⟩
theorem VM.rd.of {w : World} {B : Nat} {x : VM} (hb : SlB w B x.vb x.b) (hi : SlV w B x.vi x.items) : x.rd w B := by
  cases x
  exact .mk hb hi.1 hi.2
theorem VM.rd.keep {w w' : World} {B : Nat} {x : VM} (h : x.rd w B) (hk : ∀ b o, b < B → w'.cell? ⟨b, o, none⟩ = w.cell? ⟨b, o, none⟩) : x.rd w' B := by
  induction h with
  | mk hb hi hx ih => exact .mk (Sl.keep hb hk) (Sl.keep hi hk) ih
theorem VM.rd.bel {w w' : World} {B : Nat} {x : VM} (h : x.rd w B) (hb : Below B w w') : x.rd w' B := h.keep fun _ _ hp => hb.cell (p := ⟨_, _, none⟩) hp
theorem VM.rd.more {w : World} {B B' : Nat} {x : VM} (h : x.rd w B) (hB : B ≤ B') : x.rd w B' := by
  induction h with
  | mk hb hi hx ih => exact .mk (hb.more hB) (hi.more hB) ih
theorem SlV.keep {w w' : World} {B : Nat} {v : Value} {l : List VM} (h : SlV w B v l) (hk : ∀ b o, b < B → w'.cell? ⟨b, o, none⟩ = w.cell? ⟨b, o, none⟩) : SlV w' B v l := ⟨h.1.keep hk, fun x hx => (h.2 x hx).keep hk⟩
theorem SlV.below {w w' : World} {B : Nat} {v : Value} {l : List VM} (h : SlV w B v l) (hb : Below B w w') : SlV w' B v l := ⟨h.1.below hb, fun x hx => (h.2 x hx).bel hb⟩
theorem SlV.more {w : World} {B B' : Nat} {v : Value} {l : List VM} (h : SlV w B v l) (hB : B ≤ B') : SlV w B' v l := ⟨h.1.more hB, fun x hx => (h.2 x hx).more hB⟩
theorem SlV.open_ {w : World} {B : Nat} {v : Value} {l : List VM} (h : SlV w B v l) : ∃ A c, v = .slice A l.length c ∧ l.length ≤ c ∧ c ≤ maxLen ∧
    (∀ k (hk : k < l.length), ∃ b off, A = some ⟨b, off, none⟩ ∧ b < B ∧ w.cell? ⟨b, off + k * 3, none⟩ = some (.int .i64 l[k].n) ∧ w.cell? ⟨b, off + k * 3 + 1, none⟩ = some l[k].vb ∧ w.cell? ⟨b, off + k * 3 + 2, none⟩ = some l[k].vi) := by
  obtain ⟨_, A, c, rfl, hc, hm, hr⟩ := h.1
  refine ⟨A, c, rfl, hc, hm, fun k hk => ?_⟩
  obtain ⟨b, off, e, hb, hcell⟩ := hr (by omega)
  have hat : ∀ j u, j < 3 → (vmCells l[k])[j]? = some u → w.cell? ⟨b, off + k * 3 + j, none⟩ = some u := fun j u hj hu => by
    rw [Nat.add_assoc]; exact hcell (k * 3 + j) u (by rw [flatMap_at vmCells 3 vmCells_length l k j hk hj]; exact hu)
  exact ⟨b, off, e, hb, hat 0 _ (by omega) rfl, hat 1 _ (by omega) rfl, hat 2 _ (by omega) rfl⟩
/-- The slices of item k, opened, with their cells in every later world. -/
theorem SlV.at_ {w : World} {B : Nat} {v : Value} {l : List VM} (h : SlV w B v l) (k : Nat) (hk : k < l.length) : ∃ A1 c1 A2 c2, l[k].vb = .slice A1 l[k].b.length c1 ∧ l[k].vi = .slice A2 l[k].items.length c2 ∧ l[k].b.length ≤ maxLen ∧ l[k].items.length ≤ maxLen := by
  have hr := h.2 l[k] (List.getElem_mem hk)
  obtain ⟨A1, c1, e1, h1, h2, -⟩ := hr.bytes.open_
  obtain ⟨A2, c2, e2, h3, h4, -⟩ := hr.its.open_
  exact ⟨A1, c1, A2, c2, e1, e2, by omega, by omega⟩
/-- What is known of a value that came in. -/
inductive Val.ok : Val → Prop
  | mk {n : Int} {b : List UInt8} {l : List Val} (hn : InI64 n) (hl : ∀ x ∈ l, Val.ok x) : Val.ok (.mk n b l)
theorem Val.ok.num {x : Val} (h : x.ok) : InI64 x.n := by cases h; assumption
theorem Val.ok.its {x : Val} (h : x.ok) : ∀ y ∈ x.items, y.ok := by cases h; assumption

section
variable {H : Type} {enc : TypeId × Value → H} {w : World}
theorem open_list_lt {P : Program} {T : Type} {t e : TypeId} {fuel size : Nat} {v : Value} {x : DataW H × List MemPlace} (ht : P.underlying t = some (.slice e)) (hC : P.cellsOf e = size) (hs : 0 < size)
    (c : T → List Value) (Q : T → Prop) (hc : ∀ t, (c t).length = size) (h : DataW.trod enc P w 0 (fun _ => true) true fuel t [v] = some x)
    (hel : ∀ n, n < fuel → ∀ cs' y, DataW.trod enc P w 0 (fun _ => true) true n e cs' = some y → ∃ t : T, cs' = c t ∧ Q t) :
    ∃ l : List T, Sl w w.heap.size size v l.length (l.flatMap c) ∧ ∀ t ∈ l, Q t := by
  rcases DataW.trod_slice ht h with ⟨h0, _⟩ | ⟨a, len, cap, elems, rest, n, hfu, hcs, _, _, hl, hm, hlen, hi, _, _⟩
  · simp only [List.cons.injEq, and_true] at h0
    subst h0
    exact ⟨[], Sl.nil _ _ _, by simp⟩
  · simp only [List.cons.injEq, and_true] at hcs
    subst hcs
    have hex : ∀ i, i < len → ∃ t : T, w.cells? 0 (a.add (i * size)) size = some (c t) ∧ Q t := by
      intro i hil
      have h1 := hi i hil
      rw [hC, List.getElem?_eq_getElem (by omega), Option.bind_eq_some_iff] at h1
      obtain ⟨cs', h1, h2⟩ := h1
      obtain ⟨t, rfl, hq⟩ := hel n (by omega) cs' _ h2
      exact ⟨t, h1, hq⟩
    obtain ⟨l, hll, hp⟩ := choose_list len _ hex
    refine ⟨l, ⟨flatMap_len c size hc l, some a, cap, by rw [hll], by omega, hm, fun hpos => ?_⟩, ?_⟩
    · obtain ⟨b, off, spot⟩ := a
      have hcell : ∀ i (hi : i < l.length) j, j < size → w.cell? ((⟨b, off, spot⟩ : Addr).add (i * size + j)) = (c l[i])[j]? := by
        intro i hi j hj
        obtain ⟨_, _, hat⟩ := World.cells?_some (hp i hi).1
        have := hat j hj
        rw [Go.Deep.add_add] at this
        exact this
      have h00 := hcell 0 hpos 0 hs
      rw [List.getElem?_eq_getElem (by rw [hc]; exact hs)] at h00
      have hspot : spot = none := by
        have := World.cell?_spot h00
        simpa [Addr.add] using this
      subst hspot
      have hadd : ∀ i, (⟨b, off, none⟩ : Addr).add i = ⟨b, off + i, none⟩ := by intro i; unfold Addr.add; split <;> simp_all
      refine ⟨b, off, rfl, ?_, ?_⟩
      · have := World.block_lt_of_cell? w _ h00
        rw [hadd] at this
        exact this
      · intro j u hu
        have hjl : j < l.length * size := by
          have := (List.getElem?_eq_some_iff.1 hu).1
          rwa [flatMap_len c size hc l] at this
        have hk : j / size < l.length := Nat.div_lt_of_lt_mul (by rw [Nat.mul_comm]; exact hjl)
        have hm' : j % size < size := Nat.mod_lt _ hs
        have e : j / size * size + j % size = j := by rw [Nat.mul_comm]; exact Nat.div_add_mod j size
        have h1 := hcell (j / size) hk (j % size) hm'
        rw [e, hadd] at h1
        rw [h1, ← flatMap_at c size hc l (j / size) (j % size) hk hm', e]
        exact hu
    · intro t ht'
      obtain ⟨i, hi, rfl⟩ := List.getElem_of_mem ht'
      exact (hp i hi).2
set_option maxRecDepth 100000 in
theorem trod_val : ∀ (n : Nat) (cs : List Value) (y : DataW H × List MemPlace), DataW.trod enc Tryd.prog w 0 (fun _ => true) true n 43 cs = some y → ∃ x : VM, cs = vmCells x ∧ x.rd w w.heap.size ∧ x.d.ok := by
  intro n
  induction n using Nat.strongRecOn with
  | _ n ih =>
    intro cs y h
    obtain ⟨xs, m, hn, _, hlen, hxl, hg⟩ := DataW.trod_struct Tryd.underlying43 h
    have hlen3 : cs.length = 3 := hlen
    match cs, hlen3 with
    | [c0, c1, c2], _ =>
      match xs, hxl with
      | [y0, y1, y2], _ =>
        have h0 := hg 0 _ rfl
        have h1 := hg 1 _ rfl
        have h2 := hg 2 _ rfl
        obtain ⟨a, e0, _, ha⟩ := DataW.trod_int Tryd.underlying3 h0
        have f1 : DataW.trod enc Tryd.prog w 0 (fun _ => true) true _ 40 [c1] = some y1 := h1
        have f2 : DataW.trod enc Tryd.prog w 0 (fun _ => true) true _ 41 [c2] = some y2 := h2
        obtain ⟨lb, wb⟩ := trod_bytes Tryd.underlying40 Tryd.underlying5 (by kernel_rfl) f1
        obtain ⟨l, hl, hq⟩ := open_list_lt Tryd.underlying41 (by kernel_rfl) (by omega) vmCells (fun x => x.rd w w.heap.size ∧ x.d.ok) vmCells_length f2 (fun k hk cs' y' hy => ih k (by omega) cs' y' hy)
        have g0 : [c0] = [.int .i64 a] := e0
        simp only [List.cons.injEq, and_true] at g0
        subst g0
        refine ⟨.mk a lb c1 c2 l, rfl, .mk wb hl fun x hx => (hq x hx).1, ?_⟩
        rw [VM.d_mk]
        refine .mk (wf_i64_bd ha) fun x hx => ?_
        obtain ⟨z, hz, rfl⟩ := List.mem_map.1 hx
        exact (hq z hz).2
end
end Go.Proofs.YtkfmdkogifmfmaaDoor
