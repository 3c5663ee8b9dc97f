/- ApplyChanges in the words of Own, spec and impl. No condition but those of the arguments. -/
import Derived.Test.YtipfacnmobineaaGreatDoorGcc
import Derived.Test.YtipfacnmobineaaGreatDoorGcd
import Derived.Test.YtipfacnmobineaaGreatDoorGv
import Derived.Test.YtipfacnmobineaaGreatDoorGcb
import Derived.Test.YtipfacnmobineaaGreatDoorGca
import Derived.Test.YtipfacnmobineaaGreatDoorGn
set_option linter.unusedSimpArgs false
set_option linter.unusedVariables false
namespace Go.Proofs.YtipfacnmobineaaGreatDoor
open Go.RowKit
theorem apply_size {D:List RuleD} {X FX:Val} {C:List ChD} {b:Bool} (h:applyV D X C X=(FX,b)):FX.size≤X.size+chSizes C:=by
 have:=applyV_size (D:=D) (X:=X) (N:=X.size+chSizes C) (by omega) C X (Nat.le_refl _)
 rw [h] at this
 exact this
theorem specApply_law {w:World} {v u q:Value} {D:List RuleD} {X FX:Val} {C:List ChD} {b:Bool} {lo hi lo' hi' lq hq:Nat} (h:OwD D lo hi w v) (hk:okD D) (hv:OwV X lo' hi' w u) (hp:OwC C lq hq w q) (hx:X.size≤1048576) (hc:chSizes C≤1048576) (hF:applyV D X C X=(FX,b)):
  Calls Tryz.prog 9 #[.agg #[v],u,q] w (Made2 (OwV FX) (.bool b) w):=by
 obtain ⟨l,rfl,r⟩:=h.sl
 obtain ⟨x,rfl,rfl,rx⟩:=hv.rd
 obtain ⟨y,rfl,ry⟩:=hp.slc
 have:=specApply_any v l x q y _ w r (Nat.le_refl _) hk.l.1 hk.l.2 rx ry (by omega)
 rw [hF] at this
 exact this
theorem implApply_law {w0 w:World} {v u q:Value} {D:List RuleD} {X FX:Val} {C:List ChD} {b:Bool} {lo hi lo' hi' lq hq:Nat} (h:OwD D lo hi w v) (hk:okD D) (hv:OwV X lo' hi' w u) (hp:OwC C lq hq w q) (hx:X.size≤1048576) (hc:chSizes C≤1048576) (hF:applyV D X C X=(FX,b)) (ht:Tab w0) (hb:Below w0.heap.size w0 w):
  Calls Tryz.prog 13 #[.agg #[v],u,q] w (Made2 (OwV FX) (.bool b) w):=by
 obtain ⟨l,rfl,r⟩:=h.sl
 obtain ⟨x,rfl,rfl,rx⟩:=hv.rd
 obtain ⟨y,rfl,ry⟩:=hp.slc
 have:=implApply_any v l x q y _ w r (Nat.le_refl _) hk.l.1 hk.l.2 rx ry (by omega) (tab_on ht hb)
 rw [hF] at this
 exact this
end Go.Proofs.YtipfacnmobineaaGreatDoor
