/- Plain laws of the least number of changes (dist): symmetric, 0 for equal lists alone, between two bounds, and one change adds at most one. No condition. -/
import Derived.Test.YtopplnfjdgoaaaaDoorDistM
namespace Go.Proofs.YtopplnfjdgoaaaaDoor
/-- n changes lead from one list to the other. -/
inductive Ed : List UInt8 → List UInt8 → Nat → Prop
  | nil : Ed [] [] 0
  | same (x : UInt8) {a b : List UInt8} {n : Nat} : Ed a b n → Ed (x :: a) (x :: b) n
  | sub (x y : UInt8) {a b : List UInt8} {n : Nat} : Ed a b n → Ed (x :: a) (y :: b) (n + 1)
  | ins (y : UInt8) {a b : List UInt8} {n : Nat} : Ed a b n → Ed a (y :: b) (n + 1)
  | del (x : UInt8) {a b : List UInt8} {n : Nat} : Ed a b n → Ed (x :: a) b (n + 1)
theorem Ed.symm {a b : List UInt8} {n : Nat} (h : Ed a b n) : Ed b a n := by
  induction h with
  | nil => exact .nil
  | same x _ ih => exact .same x ih
  | sub x y _ ih => exact .sub y x ih
  | ins y _ ih => exact .del y ih
  | del x _ ih => exact .ins x ih
theorem Ed.refl (a : List UInt8) : Ed a a 0 := by
  induction a with
  | nil => exact .nil
  | cons x a ih => exact .same x ih
theorem Ed.eq {a b : List UInt8} {n : Nat} (h : Ed a b n) : n = 0 → a = b := by
  induction h with
  | nil => intro _; rfl
  | same x _ ih => intro h; rw [ih h]
  | sub x y _ ih => intro h; omega
  | ins y _ ih => intro h; omega
  | del x _ ih => intro h; omega
theorem Ed.len {a b : List UInt8} {n : Nat} (h : Ed a b n) : a.length ≤ b.length + n ∧ b.length ≤ a.length + n := by
  induction h with
  | nil => simp
  | same x _ ih => simp only [List.length_cons]; omega
  | sub x y _ ih => simp only [List.length_cons]; omega
  | ins y _ ih => simp only [List.length_cons]; omega
  | del x _ ih => simp only [List.length_cons]; omega
theorem Ed.nil_left (b : List UInt8) : Ed [] b b.length := by
  induction b with
  | nil => exact .nil
  | cons y b ih => exact .ins y ih
theorem Ed.most (a : List UInt8) : ∀ b : List UInt8, Ed a b (max a.length b.length) := by
  induction a with
  | nil => intro b; have := Ed.nil_left b; simpa using this
  | cons x a ih =>
    intro b
    cases b with
    | nil => have := (Ed.nil_left (x :: a)).symm; simpa using this
    | cons y b =>
      have := Ed.sub x y (ih b)
      have e : max (x :: a).length (y :: b).length = max a.length b.length + 1 := by simp only [List.length_cons]; omega
      rw [e]; exact this
theorem take_rev_cons {a : List UInt8} {i : Nat} {x : UInt8} {t : List UInt8} (h : (a.take i).reverse = x :: t) (hi : i ≤ a.length) : ∃ j, i = j + 1 ∧ a[j]? = some x ∧ t = (a.take j).reverse := by
  cases i with
  | zero => simp at h
  | succ j =>
    have hj : j < a.length := by omega
    rw [List.take_succ_eq_append_getElem hj, List.reverse_append] at h
    simp only [List.reverse_cons, List.reverse_nil, List.nil_append, List.singleton_append, List.cons.injEq] at h
    exact ⟨j, rfl, by rw [List.getElem?_eq_getElem hj, h.1], h.2.symm⟩
theorem take_rev_succ {a : List UInt8} {j : Nat} (hj : j < a.length) : (a.take (j + 1)).reverse = a[j] :: (a.take j).reverse := by
  rw [List.take_succ_eq_append_getElem hj, List.reverse_append]; rfl
theorem take_rev_nil {a : List UInt8} {i : Nat} (h : (a.take i).reverse = []) (hi : i ≤ a.length) : i = 0 := by
  have := congrArg List.length h
  rw [List.length_reverse, List.length_take] at this
  simp only [List.length_nil] at this
  omega
theorem Ed.of_dist (a b : List UInt8) (i : Nat) : i ≤ a.length → ∀ k, k ≤ b.length → Ed (a.take i).reverse (b.take k).reverse (dist a b i k) := by
  induction i with
  | zero =>
    intro _ k hk
    rw [dist_zero]
    have := Ed.nil_left (b.take k).reverse
    simpa [Nat.min_eq_left hk] using this
  | succ i ih =>
    intro hi k
    induction k with
    | zero =>
      intro _
      rw [dist_col]
      have := (Ed.nil_left (a.take (i + 1)).reverse).symm
      simpa [Nat.min_eq_left hi] using this
    | succ k ihk =>
      intro hk
      have h1 := ih (by omega) k (by omega)
      have h2 := ih (by omega) (k + 1) hk
      have h3 := ihk (by omega)
      have hi' : i < a.length := by omega
      have hk' : k < b.length := by omega
      rw [dist_succ]
      by_cases hm : dist a b i k + (if a[i]? = b[k]? then 0 else 1) ≤ min (dist a b i (k + 1)) (dist a b (i + 1) k) + 1
      · rw [Nat.min_eq_left hm]
        rw [take_rev_succ hi', take_rev_succ hk']
        by_cases he : a[i]? = b[k]?
        · rw [if_pos he, (byte_eq_iff hi' hk').1 he]
          exact .same _ h1
        · rw [if_neg he]
          exact .sub _ _ h1
      · rw [Nat.min_eq_right (by omega)]
        by_cases hc : dist a b i (k + 1) ≤ dist a b (i + 1) k
        · rw [Nat.min_eq_left hc, take_rev_succ hi']
          exact .del _ h2
        · rw [Nat.min_eq_right (by omega), take_rev_succ hk']
          exact .ins _ h3
theorem Ed.dist_le {a b x y : List UInt8} {n : Nat} (h : Ed x y n) : ∀ i k, i ≤ a.length → k ≤ b.length → x = (a.take i).reverse → y = (b.take k).reverse → dist a b i k ≤ n := by
  induction h with
  | nil =>
    intro i k hi hk hx hy
    rw [take_rev_nil hx.symm hi, take_rev_nil hy.symm hk, dist_zero]; exact Nat.le_refl _
  | same x _ ih =>
    intro i k hi hk hx hy
    obtain ⟨i', rfl, e1, rfl⟩ := take_rev_cons hx.symm hi
    obtain ⟨k', rfl, e2, rfl⟩ := take_rev_cons hy.symm hk
    have := ih i' k' (by omega) (by omega) rfl rfl
    rw [dist_succ, if_pos (by rw [e1, e2])]; omega
  | sub x y _ ih =>
    intro i k hi hk hx hy
    obtain ⟨i', rfl, e1, rfl⟩ := take_rev_cons hx.symm hi
    obtain ⟨k', rfl, e2, rfl⟩ := take_rev_cons hy.symm hk
    have := ih i' k' (by omega) (by omega) rfl rfl
    rw [dist_succ]; split <;> omega
  | ins y _ ih =>
    intro i k hi hk hx hy
    obtain ⟨k', rfl, e2, rfl⟩ := take_rev_cons hy.symm hk
    have := ih i k' hi (by omega) hx rfl
    cases i with
    | zero => rw [dist_zero] at *; omega
    | succ i => rw [dist_succ]; omega
  | del x _ ih =>
    intro i k hi hk hx hy
    obtain ⟨i', rfl, e1, rfl⟩ := take_rev_cons hx.symm hi
    have := ih i' k (by omega) hk rfl hy
    cases k with
    | zero => rw [dist_col] at *; omega
    | succ k => rw [dist_succ]; omega
/-- The least number of changes. -/
def LD (a b : List UInt8) : Nat := dist a b a.length b.length
theorem Ed.of_LD (a b : List UInt8) : Ed a.reverse b.reverse (LD a b) := by
  have := Ed.of_dist a b a.length (Nat.le_refl _) b.length (Nat.le_refl _)
  rwa [List.take_length, List.take_length] at this
theorem Ed.LD_le {a b : List UInt8} {n : Nat} (h : Ed a.reverse b.reverse n) : LD a b ≤ n :=
  Ed.dist_le h _ _ (Nat.le_refl _) (Nat.le_refl _) (by rw [List.take_length]) (by rw [List.take_length])
theorem LD_symm (a b : List UInt8) : LD a b = LD b a :=
  Nat.le_antisymm (Ed.of_LD b a).symm.LD_le (Ed.of_LD a b).symm.LD_le
theorem LD_zero (a b : List UInt8) : LD a b = 0 ↔ a = b := by
  constructor
  · intro h
    have := (Ed.of_LD a b).eq h
    exact List.reverse_inj.1 this
  · rintro rfl
    have := (Ed.refl a.reverse).LD_le
    omega
theorem LD_len (a b : List UInt8) : a.length ≤ b.length + LD a b ∧ b.length ≤ a.length + LD a b := by
  have := (Ed.of_LD a b).len
  simpa using this
theorem LD_most (a b : List UInt8) : LD a b ≤ max a.length b.length := by
  have := (Ed.most a.reverse b.reverse).LD_le
  simpa using this
theorem LD_nil (a : List UInt8) : LD a [] = a.length := by
  have h1 := LD_most a []
  have h2 := LD_len a []
  simp only [List.length_nil] at *
  omega
theorem Ed.head {a c : List UInt8} {n : Nat} (h : Ed a c n) : ∀ (y : UInt8) (v : List UInt8), c = y :: v → (∃ m, m ≤ n + 1 ∧ Ed a v m) ∧ ∀ x, ∃ m, m ≤ n + 1 ∧ Ed a (x :: v) m := by
  induction h with
  | nil => intro y v h; cases h
  | same z h ih => intro y v e; cases e; exact ⟨⟨_, Nat.le_refl _, .del _ h⟩, fun x => ⟨_, Nat.le_refl _, .sub _ x h⟩⟩
  | sub z z' h ih => intro y v e; cases e; exact ⟨⟨_, by omega, .del _ h⟩, fun x => ⟨_, by omega, .sub _ x h⟩⟩
  | ins z h ih => intro y v e; cases e; exact ⟨⟨_, by omega, h⟩, fun x => ⟨_, by omega, .ins x h⟩⟩
  | del z h ih =>
    intro y v e
    obtain ⟨⟨m, hm, h1⟩, h2⟩ := ih y v e
    refine ⟨⟨m + 1, by omega, .del _ h1⟩, fun x => ?_⟩
    obtain ⟨k, hk, h3⟩ := h2 x
    exact ⟨k + 1, by omega, .del _ h3⟩
theorem Ed.near {a c : List UInt8} {n : Nat} (h : Ed a c n) : ∀ (u s t v : List UInt8), c = u ++ (s ++ v) → s.length ≤ 1 → t.length ≤ 1 → ∃ m, m ≤ n + 1 ∧ Ed a (u ++ (t ++ v)) m := by
  have base : ∀ {a c : List UInt8} {n : Nat}, Ed a c n → ∀ (s t v : List UInt8), c = s ++ v → s.length ≤ 1 → t.length ≤ 1 → ∃ m, m ≤ n + 1 ∧ Ed a (t ++ v) m := by
    intro a c n h s t v hc hs ht
    match s, t, hs, ht with
    | [], [], _, _ => subst hc; exact ⟨n, by omega, h⟩
    | [], [x], _, _ => subst hc; exact ⟨n + 1, by omega, .ins x h⟩
    | [y], [], _, _ => exact (h.head y v hc).1
    | [y], [x], _, _ => exact (h.head y v hc).2 x
  induction h with
  | nil => intro u s t v hc hs ht; cases u with
    | nil => exact base .nil s t v hc hs ht
    | cons z u => cases hc
  | same z h ih => intro u s t v hc hs ht; cases u with
    | nil => exact base (.same z h) s t v hc hs ht
    | cons z' u =>
      cases hc
      obtain ⟨m, hm, h1⟩ := ih u s t v rfl hs ht
      exact ⟨m, hm, .same _ h1⟩
  | sub z z2 h ih => intro u s t v hc hs ht; cases u with
    | nil => exact base (.sub z z2 h) s t v hc hs ht
    | cons z' u =>
      cases hc
      obtain ⟨m, hm, h1⟩ := ih u s t v rfl hs ht
      exact ⟨m + 1, by omega, .sub _ _ h1⟩
  | ins z h ih => intro u s t v hc hs ht; cases u with
    | nil => exact base (.ins z h) s t v hc hs ht
    | cons z' u =>
      cases hc
      obtain ⟨m, hm, h1⟩ := ih u s t v rfl hs ht
      exact ⟨m + 1, by omega, .ins _ h1⟩
  | del z h ih =>
    intro u s t v hc hs ht
    obtain ⟨m, hm, h1⟩ := ih u s t v hc hs ht
    exact ⟨m + 1, by omega, .del _ h1⟩
theorem LD_near (a u s t v : List UInt8) (hs : s.length ≤ 1) (ht : t.length ≤ 1) : LD a (u ++ (t ++ v)) ≤ LD a (u ++ (s ++ v)) + 1 := by
  obtain ⟨m, hm, h⟩ := (Ed.of_LD a (u ++ (s ++ v))).near v.reverse s.reverse t.reverse u.reverse (by simp) (by simpa using hs) (by simpa using ht)
  have h2 : Ed a.reverse (u ++ (t ++ v)).reverse m := by simpa using h
  exact Nat.le_trans h2.LD_le hm
end Go.Proofs.YtopplnfjdgoaaaaDoor
