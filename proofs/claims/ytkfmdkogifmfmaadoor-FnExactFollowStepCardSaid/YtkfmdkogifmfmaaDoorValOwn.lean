/- Values whose rows are the call's own: their blocks, what keeps them, what is marked. No condition. -/
import Derived.Test.YtkfmdkogifmfmaaDoorVal
import Derived.Test.YtkfmdkogifmfmaaDoorOwnB
namespace Go.Proofs.YtkfmdkogifmfmaaDoor
set_option linter.unusedSimpArgs false
set_option linter.unusedVariables false
open Go.RowKit
mutual
/-- The blocks of a value's rows. -/
def VM.bks : VM → List Nat
  | .mk _ _ vb vi l => vb.ownBlock.toList ++ (vi.ownBlock.toList ++ VM.bkss l)
def VM.bkss : List VM → List Nat
  | [] => []
  | x :: l => x.bks ++ VM.bkss l
end
theorem VM.bks_mk (n : Int) (b : List UInt8) (vb vi : Value) (l : List VM) : (VM.mk n b vb vi l).bks = vb.ownBlock.toList ++ (vi.ownBlock.toList ++ VM.bkss l) := by rw [VM.bks]
theorem VM.bkss_nil : VM.bkss [] = [] := by rw [VM.bkss]
theorem VM.bkss_cons (x : VM) (l : List VM) : VM.bkss (x :: l) = x.bks ++ VM.bkss l := by rw [VM.bkss]
theorem VM.bkss_append (l l' : List VM) : VM.bkss (l ++ l') = VM.bkss l ++ VM.bkss l' := by
  induction l with
  | nil => rw [VM.bkss_nil]; rfl
  | cons x l ih => rw [List.cons_append, VM.bkss_cons, VM.bkss_cons, ih, List.append_assoc]
theorem VM.mem_bkss {x : VM} {l : List VM} (h : x ∈ l) {g : Nat} (hg : g ∈ x.bks) : g ∈ VM.bkss l := by
  induction l with
  | nil => simp at h
  | cons y l ih =>
    rw [VM.bkss_cons, List.mem_append]
    simp only [List.mem_cons] at h
    rcases h with rfl | h
    · exact .inl hg
    · exact .inr (ih h)
/-- The rows of a value are the call's own, in blocks from lo on. -/
inductive VM.own (lo : Nat) (w : World) : VM → Prop
  | mk {n : Int} {b : List UInt8} {vb vi : Value} {l : List VM} (hb : w.ownsRow lo 5 1 vb b.length (u8s b)) (hi : w.ownsRow lo 48 3 vi l.length (l.flatMap vmCells)) (hx : ∀ x ∈ l, VM.own lo w x) : VM.own lo w (.mk n b vb vi l)
theorem own_row_keep {w w' : World} {base : Nat} {E : TypeId} {size n : Nat} {v : Value} {xs : List Value} (h : w.ownsRow base E size v n xs) (hk : ∀ g, v.ownBlock = some g → w'.heap[g]? = w.heap[g]?) : w'.ownsRow base E size v n xs := by
  refine ⟨h.1, ?_⟩
  rcases h.2 with hn | ⟨g, cap, cur, rfl, hbb, hg, rest⟩
  · exact .inl hn
  · exact .inr ⟨g, cap, cur, rfl, hbb, by rw [hk g rfl]; exact hg, rest⟩
theorem VM.own.bytes {lo : Nat} {w : World} {x : VM} (h : x.own lo w) : w.ownsRow lo 5 1 x.vb x.b.length (u8s x.b) := by cases h; assumption
theorem VM.own.row {lo : Nat} {w : World} {x : VM} (h : x.own lo w) : w.ownsRow lo 48 3 x.vi x.items.length (x.items.flatMap vmCells) := by cases h; assumption
theorem VM.own.its {lo : Nat} {w : World} {x : VM} (h : x.own lo w) : ∀ y ∈ x.items, y.own lo w := by cases h; assumption
theorem VM.own.keep {lo : Nat} {w w' : World} {x : VM} (h : x.own lo w) (hk : ∀ g ∈ x.bks, w'.heap[g]? = w.heap[g]?) : x.own lo w' := by
  induction h with
  | mk hb hi hx ih =>
    rw [VM.bks_mk] at hk
    refine .mk (own_row_keep hb fun g hg => hk g ?_) (own_row_keep hi fun g hg => hk g ?_) fun y hy => ih y hy fun g hg => hk g ?_
    · simp [hg]
    · simp [hg]
    · simp only [List.mem_append]; exact .inr (.inr (VM.mem_bkss hy hg))
theorem VM.own.rd {lo : Nat} {w : World} {x : VM} (h : x.own lo w) : x.rd w w.heap.size := by
  induction h with
  | mk hb hi hx ih => exact .mk (Sl.of_own hb) (Sl.of_own hi) ih
theorem VM.own.base {lo lo' : Nat} {w : World} {x : VM} (h : x.own lo w) (hl : lo' ≤ lo) : x.own lo' w := by
  induction h with
  | mk hb hi hx ih => exact .mk (own_base hb hl) (own_base hi hl) ih
theorem own_row_block {w : World} {base : Nat} {E : TypeId} {size n : Nat} {v : Value} {xs : List Value} (h : w.ownsRow base E size v n xs) {g : Nat} (hg : v.ownBlock = some g) : base ≤ g ∧ g < w.heap.size := h.lt g hg
theorem VM.own.lt {lo : Nat} {w : World} {x : VM} (h : x.own lo w) : ∀ g ∈ x.bks, lo ≤ g ∧ g < w.heap.size := by
  induction h with
  | @mk n b vb vi l hb hi hx ih =>
    intro g hg
    rw [VM.bks_mk] at hg
    simp only [List.mem_append, Option.mem_toList] at hg
    rcases hg with hg | hg | hg
    · exact hb.lt g hg
    · exact hi.lt g hg
    · have : ∀ l' : List VM, (∀ y ∈ l', y ∈ l) → g ∈ VM.bkss l' → lo ≤ g ∧ g < w.heap.size := by
        intro l'
        induction l' with
        | nil => intro _ h; rw [VM.bkss_nil] at h; simp at h
        | cons y l' ih' =>
          intro hs h
          rw [VM.bkss_cons, List.mem_append] at h
          rcases h with h | h
          · exact ih y (hs y (by simp)) g h
          · exact ih' (fun z hz => hs z (by simp [hz])) h
      exact this l (fun y hy => hy) hg
/-- Values whose rows lie apart, in blocks from lo up to hi. -/
structure OwVs (l : List VM) (lo hi : Nat) (w : World) : Prop where
  own : ∀ x ∈ l, x.own lo w
  nd : (VM.bkss l).Nodup
  rng : ∀ g ∈ VM.bkss l, lo ≤ g ∧ g < hi
/-- One value whose rows lie apart. -/
structure OwV1 (x : VM) (lo hi : Nat) (w : World) : Prop where
  own : x.own lo w
  nd : x.bks.Nodup
  rng : ∀ g ∈ x.bks, lo ≤ g ∧ g < hi
theorem OwV1.keep {x : VM} {lo hi lo' hi' : Nat} {w w' : World} (h : OwV1 x lo hi w) (ho : Out lo' hi' w w') (hd : hi ≤ lo' ∨ hi' ≤ lo) : OwV1 x lo hi w' :=
  ⟨h.own.keep fun g hg => ho.block g (h.own.lt g hg).2 (by have := h.rng g hg; omega), h.nd, h.rng⟩
theorem OwVs.keep {l : List VM} {lo hi lo' hi' : Nat} {w w' : World} (h : OwVs l lo hi w) (ho : Out lo' hi' w w') (hd : hi ≤ lo' ∨ hi' ≤ lo) : OwVs l lo hi w' :=
  ⟨fun x hx => (h.own x hx).keep fun g hg => ho.block g ((h.own x hx).lt g hg).2 (by have := h.rng g (VM.mem_bkss hx hg); omega), h.nd, h.rng⟩
theorem OwV1.wide {x : VM} {lo hi lo' hi' : Nat} {w : World} (h : OwV1 x lo hi w) (h1 : lo' ≤ lo) (h2 : hi ≤ hi') : OwV1 x lo' hi' w :=
  ⟨h.own.base h1, h.nd, fun g hg => by have := h.rng g hg; omega⟩
theorem OwVs.wide {l : List VM} {lo hi lo' hi' : Nat} {w : World} (h : OwVs l lo hi w) (h1 : lo' ≤ lo) (h2 : hi ≤ hi') : OwVs l lo' hi' w :=
  ⟨fun x hx => (h.own x hx).base h1, h.nd, fun g hg => by have := h.rng g hg; omega⟩
theorem OwVs.nil (lo hi : Nat) (w : World) : OwVs [] lo hi w := ⟨by simp, by rw [VM.bkss_nil]; exact List.nodup_nil, by rw [VM.bkss_nil]; simp⟩
theorem OwVs.snoc {l : List VM} {x : VM} {lo m m' hi : Nat} {w : World} (h : OwVs l lo m w) (hx : OwV1 x m' hi w) (h1 : m ≤ m') (h2 : lo ≤ m') (h3 : m' ≤ hi) : OwVs (l ++ [x]) lo hi w := by
  refine ⟨fun y hy => ?_, ?_, fun g hg => ?_⟩
  · simp only [List.mem_append, List.mem_singleton] at hy
    rcases hy with hy | rfl
    · exact h.own y hy
    · exact hx.own.base h2
  · rw [VM.bkss_append, VM.bkss_cons, VM.bkss_nil, List.append_nil, List.nodup_append]
    refine ⟨h.nd, hx.nd, fun a ha b hb e => ?_⟩
    have := h.rng a ha
    have := hx.rng b hb
    omega
  · rw [VM.bkss_append, VM.bkss_cons, VM.bkss_nil, List.append_nil, List.mem_append] at hg
    rcases hg with hg | hg
    · have := h.rng g hg; omega
    · have := hx.rng g hg; omega
/-- A value out of its parts, one row behind the other. -/
theorem OwV1.of {n : Int} {b : List UInt8} {vb vi : Value} {l : List VM} {lo m1 m2 m3 hi : Nat} {w : World} (hb : Row lo m1 5 1 b.length (u8s b) w vb)
    (hi' : Row m1 m2 48 3 l.length (l.flatMap vmCells) w vi) (hl : OwVs l m2 m3 w) (h1 : lo ≤ m1) (h2 : m1 ≤ m2) (h3 : m2 ≤ m3) (h4 : m3 ≤ hi) : OwV1 (.mk n b vb vi l) lo hi w := by
  have q1 : ∀ g ∈ vb.ownBlock.toList, lo ≤ g ∧ g < m1 := fun g hg => ⟨(hb.1.lt g (Option.mem_toList.1 hg)).1, hb.2 g (Option.mem_toList.1 hg)⟩
  have q2 : ∀ g ∈ vi.ownBlock.toList, m1 ≤ g ∧ g < m2 := fun g hg => ⟨(hi'.1.lt g (Option.mem_toList.1 hg)).1, hi'.2 g (Option.mem_toList.1 hg)⟩
  refine ⟨.mk hb.1 (own_base hi'.1 h1) fun x hx => (hl.own x hx).base (by omega), ?_, fun g hg => ?_⟩
  · rw [VM.bks_mk, List.nodup_append]
    refine ⟨by cases vb.ownBlock <;> simp, ?_, fun a ha c hc e => ?_⟩
    · rw [List.nodup_append]
      refine ⟨by cases vi.ownBlock <;> simp, hl.nd, fun a ha c hc e => ?_⟩
      have := q2 a ha
      have := hl.rng c hc
      omega
    · have := q1 a ha
      rw [List.mem_append] at hc
      rcases hc with hc | hc
      · have := q2 c hc; omega
      · have := hl.rng c hc; omega
  · rw [VM.bks_mk] at hg
    simp only [List.mem_append] at hg
    rcases hg with hg | hg | hg
    · have := q1 g hg; omega
    · have := q2 g hg; omega
    · have := hl.rng g hg; omega
/-- A value that a call made. -/
def OwV (X : Val) (lo hi : Nat) (w : World) (v : Value) : Prop := ∃ x : VM, x.d = X ∧ v = vmV x ∧ OwV1 x lo hi w
theorem OwV.keep {X : Val} {lo hi lo' hi' : Nat} {w w' : World} {v : Value} (h : OwV X lo hi w v) (ho : Out lo' hi' w w') (hd : hi ≤ lo' ∨ hi' ≤ lo) : OwV X lo hi w' v := by
  obtain ⟨x, h1, h2, h3⟩ := h
  exact ⟨x, h1, h2, h3.keep ho hd⟩
theorem OwV.wide {X : Val} {lo hi lo' hi' : Nat} {w : World} {v : Value} (h : OwV X lo hi w v) (h1 : lo' ≤ lo) (h2 : hi ≤ hi') : OwV X lo' hi' w v := by
  obtain ⟨x, a, b, c⟩ := h
  exact ⟨x, a, b, c.wide h1 h2⟩
theorem OwV.rd {X : Val} {lo hi : Nat} {w : World} {v : Value} (h : OwV X lo hi w v) : ∃ x : VM, x.d = X ∧ v = vmV x ∧ x.rd w w.heap.size := by
  obtain ⟨x, h1, h2, h3⟩ := h
  exact ⟨x, h1, h2, h3.own.rd⟩
theorem own_slice {w : World} {base : Nat} {E : TypeId} {size n : Nat} {v : Value} {xs : List Value} (h : w.ownsRow base E size v n xs) : ∃ A c, v = .slice A n c := by
  rcases h.2 with ⟨rfl, rfl⟩ | ⟨g, cap, cur, rfl, _⟩
  · exact ⟨none, 0, rfl⟩
  · exact ⟨_, _, rfl⟩
mutual
/-- The value with marks from k on in its bytes and its items. -/
def VM.mkd : VM → Nat → VM
  | .mk n b vb vi l, k => .mk n (marks k b.length) vb vi (VM.mks l (k + b.length))
def VM.mks : List VM → Nat → List VM
  | [], _ => []
  | .mk _ b vb vi l' :: l, k => .mk k (marks (k + 1) b.length) vb vi (VM.mks l' (k + 1 + b.length)) :: VM.mks l (k + 1 + (b.length + Val.sizes (VM.ds l')))
end
theorem VM.mkd_mk (n : Int) (b : List UInt8) (vb vi : Value) (l : List VM) (k : Nat) : (VM.mk n b vb vi l).mkd k = .mk n (marks k b.length) vb vi (VM.mks l (k + b.length)) := by rw [VM.mkd]
theorem VM.mks_nil (k : Nat) : VM.mks [] k = [] := by rw [VM.mks]
theorem VM.mks_cons (n : Int) (b : List UInt8) (vb vi : Value) (l' l : List VM) (k : Nat) : VM.mks (.mk n b vb vi l' :: l) k = .mk k (marks (k + 1) b.length) vb vi (VM.mks l' (k + 1 + b.length)) :: VM.mks l (k + 1 + (b.length + Val.sizes (l'.map VM.d))) := by
  rw [VM.mks, VM.ds_map]
theorem VM.mks_length : ∀ (l : List VM) (k : Nat), (VM.mks l k).length = l.length
  | [], k => by rw [VM.mks_nil]
  | .mk _ _ _ _ _ :: l, k => by rw [VM.mks_cons, List.length_cons, List.length_cons, VM.mks_length l]
theorem vmV_mkd (x : VM) (k : Nat) : vmV (x.mkd k) = vmV x := by cases x; rw [VM.mkd_mk]; rfl
end Go.Proofs.YtkfmdkogifmfmaaDoor
