/- InvertChanges in the words of Own, spec and impl. No condition but those of the arguments. -/
import Derived.Test.YtipfacnmobineaaGreatDoorGcf
import Derived.Test.YtipfacnmobineaaGreatDoorGcg
import Derived.Test.YtipfacnmobineaaGreatDoorGv
import Derived.Test.YtipfacnmobineaaGreatDoorGcb
import Derived.Test.YtipfacnmobineaaGreatDoorGca
set_option linter.unusedSimpArgs false
set_option linter.unusedVariables false
namespace Go.Proofs.YtipfacnmobineaaGreatDoor
open Go.RowKit
theorem inv_size {D:List RuleD} {X:Val} {C FX:List ChD} (h:invV D C X []=FX):X.size≤1048576→chSizes C≤1048576→chSizes FX≤4611686018427:=fun hx hc=> by
 have h1:=invV_size (D:=D) (N:=2097152) C X [] (by omega)
 rw [h,chSizes] at h1
 have h2:=chSizes_length C
 have h3:C.length*(2*2097152+1)≤1048576*(2*2097152+1):=Nat.mul_le_mul_right _ (by omega)
 omega
theorem specInvert_law {w:World} {v u q:Value} {D:List RuleD} {X:Val} {C FX:List ChD} {lo hi lo' hi' lq hq:Nat} (h:OwD D lo hi w v) (hk:okD D) (hv:OwV X lo' hi' w u) (hp:OwC C lq hq w q) (hx:X.size≤1048576) (hc:chSizes C≤1048576) (hF:invV D C X []=FX):
  Calls Tryz.prog 21 #[.agg #[v],u,q] w (Made (OwC FX) w):=by
 obtain ⟨l,rfl,r⟩:=h.sl
 obtain ⟨x,rfl,rfl,rx⟩:=hv.rd
 obtain ⟨y,rfl,ry⟩:=hp.slc
 have:=specInvert_any v l x q y _ w r (Nat.le_refl _) hk.l.1 hk.l.2 rx ry (by omega)
 rw [hF] at this
 exact this
theorem implInvert_law {w0 w:World} {v u q:Value} {D:List RuleD} {X:Val} {C FX:List ChD} {lo hi lo' hi' lq hq:Nat} (h:OwD D lo hi w v) (hk:okD D) (hv:OwV X lo' hi' w u) (hp:OwC C lq hq w q) (hx:X.size≤1048576) (hc:chSizes C≤1048576) (hF:invV D C X []=FX) (ht:Tab w0) (hb:Below w0.heap.size w0 w):
  Calls Tryz.prog 22 #[.agg #[v],u,q] w (Made (OwC FX) w):=by
 obtain ⟨l,rfl,r⟩:=h.sl
 obtain ⟨x,rfl,rfl,rx⟩:=hv
 obtain ⟨y,rfl,ry⟩:=hp.slc
 have:=implInvert_any v l x _ q y _ w r (Nat.le_refl _) hk.l.1 hk.l.2 rx.own ry (by omega) (tab_on ht hb)
 rw [hF] at this
 exact this
end Go.Proofs.YtipfacnmobineaaGreatDoor
