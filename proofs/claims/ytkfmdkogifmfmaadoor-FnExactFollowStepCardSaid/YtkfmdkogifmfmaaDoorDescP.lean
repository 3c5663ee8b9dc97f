/- Plain: what makes a description valid, and what a valid one holds. No condition. -/
import Derived.Test.YtkfmdkogifmfmaaDoorDescW
import Derived.Test.YtkfmdkogifmfmaaDoorIsStep
namespace Go.Proofs.YtkfmdkogifmfmaaDoor
set_option linter.unusedSimpArgs false
set_option linter.unusedVariables false
open Go.RowKit
/-- p at 0 .. n-1. -/
def allTo (p : Nat → Bool) : Nat → Bool
  | 0 => true
  | n + 1 => allTo p n && p n
theorem allTo_iff (p : Nat → Bool) (n : Nat) : allTo p n = true ↔ ∀ k, k < n → p k = true := by
  induction n with
  | zero => simp [allTo]
  | succ n ih =>
    simp only [allTo, Bool.and_eq_true, ih]
    constructor
    · rintro ⟨h1, h2⟩ k hk
      by_cases h : k = n
      · subst h; exact h2
      · exact h1 k (by omega)
    · intro h
      exact ⟨fun k hk => h k (by omega), h n (by omega)⟩
theorem allTo_no (p : Nat → Bool) (k n : Nat) (h : k < n) (hp : p k = false) : allTo p n = false := by
  cases hb : allTo p n
  · rfl
  · have := (allTo_iff p n).1 hb k h
    rw [hp] at this; cases this
theorem allTo_step (p : Nat → Bool) (k : Nat) (h : allTo p k = true) (hp : p k = true) : allTo p (k + 1) = true := by rw [allTo, h, hp]; rfl
/-- The k-th name is a name, and new. -/
def nmAt (l : List ByteArray) (k : Nat) : Bool := match l[k]? with
  | some s => isName s && !hasT (l.take k) s
  | none => true
theorem nmAt_eq (l : List ByteArray) (k : Nat) (h : k < l.length) : nmAt l k = (isName l[k] && !hasT (l.take k) l[k]) := by
  unfold nmAt; rw [List.getElem?_eq_getElem h]
def okNames (l : List ByteArray) : Bool := allTo (nmAt l) l.length && inB l.length 1 8
/-- The k-th tag is within the limit and greater than the one before. -/
def tgAt (lim : Int) (l : List Int) (k : Nat) : Bool := match l[k]? with
  | some t => inB t 0 lim && (match k with | 0 => true | j + 1 => decide (l.getD j 0 < t))
  | none => true
theorem tgAt_zero (lim : Int) (l : List Int) (h : 0 < l.length) : tgAt lim l 0 = inB l[0] 0 lim := by
  unfold tgAt; rw [List.getElem?_eq_getElem h]; simp
theorem tgAt_succ (lim : Int) (l : List Int) (k : Nat) (h : k + 1 < l.length) : tgAt lim l (k + 1) = (inB l[k + 1] 0 lim && decide (l[k] < l[k + 1])) := by
  unfold tgAt; rw [List.getElem?_eq_getElem h]; simp [List.getD, List.getElem?_eq_getElem (show k < l.length by omega)]
def kid (r : RuleD) (j : Nat) : Int := r.kids.getD j 0
theorem kid_at (r : RuleD) (j : Nat) (h : j < r.kids.length) : kid r j = r.kids[j] := by
  unfold kid; simp [List.getD, List.getElem?_eq_getElem h]
def okTags (D : List RuleD) (r : RuleD) : Bool :=
  ((r.kids.length : Int) == r.tags.length + 1) && (inB r.tags.length 1 8 && allTo (tgAt (limitOf D (kid r 0)) r.tags) r.tags.length)
/-- What a rule's kind asks for. -/
def kindR (D : List RuleD) (r : RuleD) : Bool :=
  if r.kind = 1 then plainR r true false false false 0 && (inB r.size 1 4 && (!r.little || decide (1 < r.size)))
  else if r.kind = 2 then plainR r false true false false 0 && inB r.bytes.length 1 16
  else if r.kind = 3 then plainR r true false false false 0 && inB r.size 1 64
  else if r.kind = 4 then plainR r false false false false 1 && decide (0 < limitOf D (kid r 0))
  else if r.kind = 5 then plainR r false false false false 2 && decide (0 < limitOf D (kid r 0))
  else if r.kind = 6 then plainR r false false true false r.names.length && okNames r.names
  else if r.kind = 7 then plainR r false false false true (-1) && okTags D r
  else if r.kind = 8 ∨ r.kind = 9 then plainR r false false false false 1
  else if r.kind = 10 then plainR r false true false false 0 && (((r.bytes.length : Int) == 1) && (r.bytes.head? != some 92))
  else false
def littleOk (r : RuleD) : Bool := !r.little || r.kind == 1
/-- The j-th rule has another name. -/
def otherAt (D : List RuleD) (s : ByteArray) (j : Nat) : Bool := match D[j]? with
  | some r => !(r.name.toList == s.toList)
  | none => true
theorem otherAt_eq (D : List RuleD) (s : ByteArray) (j : Nat) (h : j < D.length) : otherAt D s j = !(D[j].name.toList == s.toList) := by
  unfold otherAt; rw [List.getElem?_eq_getElem h]
def kidAt (l : List Int) (i : Int) (j : Nat) : Bool := match l[j]? with
  | some k => inB k 0 (i - 1)
  | none => true
theorem kidAt_eq (l : List Int) (i : Int) (j : Nat) (h : j < l.length) : kidAt l i j = inB l[j] 0 (i - 1) := by
  unfold kidAt; rw [List.getElem?_eq_getElem h]
def ruleOk (D : List RuleD) (i : Nat) (r : RuleD) : Bool :=
  allTo (otherAt D r.name) i && (allTo (kidAt r.kids i) r.kids.length && (isName r.name && (kindR D r && littleOk r)))
def validR (D : List RuleD) (i : Int) : Bool := match ruleAt D i with
  | none => false
  | some r => ruleOk D i.toNat r
def validD (D : List RuleD) : Bool := allTo (fun k => validR D k) D.length && inB D.length 1 24
theorem validR_at (D : List RuleD) (k : Nat) (h : k < D.length) : validR D k = ruleOk D k D[k] := by
  unfold validR ruleAt
  rw [if_pos (by omega)]
  simp [List.getElem?_eq_getElem h]
theorem validR_out (D : List RuleD) (i : Int) (h : i < 0 ∨ (D.length : Int) ≤ i) : validR D i = false := by
  unfold validR; rw [ruleAt_none h]
def knownD (D : List RuleD) (i : Int) : Bool := inB i 0 ((D.length : Int) - 1) && validD D
end Go.Proofs.YtkfmdkogifmfmaaDoor
