/- The walks of EqualIndexes, spec and impl, and of the law. Every two slices of entries. -/
import Derived.Test.YtjbildcomjdpjaaSearch
import Derived.Test.YtjbildcomjdpjaaEntryS
namespace Go.Proofs.Ytjbildcomjdpjaa
open Go.RowKit

theorem stood_ent : Try.prog.stoodInHeld 54 = false := by kernel_rfl
theorem fields_ent : Try.prog.underlying 54 = some (.struct (Try.prog.fieldsOf 54)) := by kernel_rfl
theorem guard_ent : Try.prog.eqGuardType Try.prog.depth 54 = false := by kernel_rfl
theorem neq_ent (a b : Ent) (w : World) : (binOp .neq 54 (entV a) (entV b)).run Try.prog w = .ok (.bool (!(entB a b))) w := by
  unfold entV entB
  rw [run_neq_struct, run_equalIn_agg _ _ _ _ _ fields_ent stood_ent]
  go_simp
  repeat (first | rfl | (split <;> simp_all))
theorem eql_ent (a b : Ent) (w : World) : (binOp .eql 54 (entV a) (entV b)).run Try.prog w = .ok (.bool (entB a b)) w := by
  unfold entV entB
  rw [run_eql_struct, run_equalIn_agg _ _ _ _ _ fields_ent stood_ent]
  go_simp
  repeat (first | rfl | (split <;> simp_all))

def entsB : List Ent → List Ent → Bool
  | [], [] => true
  | a :: l, b :: l' => entB a b && entsB l l'
  | _, _ => false
theorem entsB_len : ∀ (l l' : List Ent), l.length ≠ l'.length → entsB l l' = false
  | [], [], h => absurd rfl h
  | a :: l, b :: l', h => by rw [entsB, entsB_len l l' (by simpa using h)]; simp
  | [], _ :: _, _ => rfl
  | _ :: _, [], _ => rfl
theorem entsB_all : ∀ (l l' : List Ent), l.length = l'.length → (∀ k (h : k < l.length) (h' : k < l'.length), entB l[k] l'[k] = true) → entsB l l' = true
  | [], [], _, _ => rfl
  | a :: l, b :: l', h, hk => by
    rw [entsB, show entB a b = true from hk 0 (by simp) (by simp), entsB_all l l' (by simpa using h) (fun k h1 h2 => hk (k + 1) (by simpa using h1) (by simpa using h2))]; rfl
  | [], _ :: _, h, _ => by simp at h
  | _ :: _, [], h, _ => by simp at h
theorem entsB_no : ∀ (l l' : List Ent) (k : Nat) (h : k < l.length) (h' : k < l'.length), entB l[k] l'[k] = false → entsB l l' = false
  | a :: l, b :: l', 0, _, _, hx => by have hx : entB a b = false := hx; rw [entsB, hx]; rfl
  | a :: l, b :: l', k + 1, h, h', hx => by rw [entsB, entsB_no l l' k (by simpa using h) (by simpa using h') (by simpa using hx)]; simp
  | [], _, _, h, _, _ => by simp at h
  | _ :: _, [], _, _, h', _ => by simp at h'

end Go.Proofs.Ytjbildcomjdpjaa
namespace Go.Proofs.Ytjbildcomjdpjaa.FnExactEqualIndexes
open Go.RowKit
end Go.Proofs.Ytjbildcomjdpjaa.FnExactEqualIndexes
