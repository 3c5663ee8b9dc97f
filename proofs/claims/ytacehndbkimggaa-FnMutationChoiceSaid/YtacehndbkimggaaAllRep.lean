/- FnExactAllReplacements: the walks of spec and impl and the law's. Every []byte. -/
import Derived.Test.YtacehndbkimggaaByte
namespace Go.Proofs.Ytacehndbkimggaa
open Go.RowKit
theorem implAllReplacements_any (v : Value) (l : List UInt8) (B : Nat) (w : World) (h : SlB w B v l) (hl : l.length ≤ 1048576) :
    Calls Try.prog 32 #[v] w fun e w' => e = .returned (.int .i64 (255 * (l.length : Int))) ∧ w = w' := by
  obtain ⟨A, c, rfl, hc, hm, _⟩ := h.open_
  go_enter Try.func32, Try.ntmps32
  go_wp2
  go_ret
  exact ⟨rfl, rfl⟩
end Go.Proofs.Ytacehndbkimggaa
namespace Go.Proofs.Ytacehndbkimggaa.FnExactAllReplacements
open Go.RowKit
end Go.Proofs.Ytacehndbkimggaa.FnExactAllReplacements
