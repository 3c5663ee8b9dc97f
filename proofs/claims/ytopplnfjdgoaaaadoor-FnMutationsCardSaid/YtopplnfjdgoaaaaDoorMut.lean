/- Mutations: how one reads; the walks of toMutation, eqMutation, and of ApplyMutation, spec and impl. Conditions: the slice reads as a list of at most 2^22 bytes. -/
import Derived.Test.YtopplnfjdgoaaaaDoorSplice
import Derived.Test.YtopplnfjdgoaaaaDoorNum
import Derived.Test.YtopplnfjdgoaaaaDoorOpen
import Derived.WalkSpells
import Derived.WalkLawsBesides
namespace Go.Proofs.YtopplnfjdgoaaaaDoor
open Go.RowKit

structure Muta where
  kind : Int
  pos : Int
  byte : Int
def mutCells (m : Muta) : List Value := [.int .i64 m.kind, .int .i64 m.pos, .int .i64 m.byte]
def mutV (m : Muta) : Value := .agg #[.int .i64 m.kind, .int .i64 m.pos, .int .i64 m.byte]
def Muta.ok (m : Muta) : Prop := InI64 m.kind ∧ InI64 m.pos ∧ InI64 m.byte

set_option maxHeartbeats 400000 in
theorem toMutation_any (e : Muta) (w : World) :
    Calls Tryd.prog 7 #[mutV e] w fun x w' => x = .returned (mutV e) ∧ Below w.heap.size w w' := by
  unfold mutV
  go_enter Tryd.func7, Tryd.ntmps7
  go_wp2
  refine bodyPost_ret (v := .agg #[.int .i64 e.kind, .int .i64 e.pos, .int .i64 e.byte]) (by simp [results, Tryd.results7, go_sem]) rfl ⟨rfl, ?_⟩
  exact (by repeat (first | exact Below.refl _ _ | assumption | refine Below.alloc ?_ (by first | omega | (simp <;> omega)) _ | refine Below.setCell ?_ (by first | omega | (simp <;> omega)) _ | refine Below.drew ?_ | refine below_drewN ?_ _))

/-- Whether a mutation applies, and what it makes. -/
def mutOk (l : List UInt8) (m : Muta) : Bool := (decide (0 ≤ m.byte) && decide (m.byte ≤ 255)) && (decide (0 ≤ m.pos) && ((decide (m.kind = 1) && decide (m.pos < l.length)) || ((decide (m.kind = 2) && decide (m.pos ≤ l.length)) || (decide (m.kind = 3) && (decide (m.pos < l.length) && decide (m.byte = 0))))))
def mutL (l : List UInt8) (m : Muta) : List UInt8 :=
  if mutOk l m then (if m.kind = 1 then spliceL l m.pos.toNat 1 [UInt8.ofNat m.byte.toNat] else if m.kind = 2 then spliceL l m.pos.toNat 0 [UInt8.ofNat m.byte.toNat] else spliceL l m.pos.toNat 1 []) else l
end Go.Proofs.YtopplnfjdgoaaaaDoor
