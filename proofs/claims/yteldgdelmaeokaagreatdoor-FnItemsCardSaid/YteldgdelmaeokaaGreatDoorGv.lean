/- Out of ValEq, ValO, ValCut: the walks and plain laws that the claim needs. No condition but those that each theorem names. -/
import Derived.Test.YteldgdelmaeokaaGreatDoorGf
import Derived.Test.YteldgdelmaeokaaGreatDoorGa
import Derived.WalkSpells
import Derived.WalkLawsBesides
import Derived.Deep.RegionHeld3
import Derived.Test.YteldgdelmaeokaaGreatDoorGm
import Derived.Test.YteldgdelmaeokaaGreatDoorGn
set_option linter.unusedSimpArgs false
set_option linter.unusedVariables false
namespace Go.Proofs.YteldgdelmaeokaaGreatDoor
open Go.RowKit
theorem Vx.agg {X:Zt} {lo hi:Nat} {w:World} {v:Value} (h:Vx X lo hi w v):∃A c A' c',v= .agg #[.int .i64 X.n, .slice A X.b.length c, .slice A' X.items.length c']:=by
 obtain ⟨x,rfl,rfl,h3⟩:=h
 obtain ⟨A,c,e1⟩:=Zm h3.own.bytes
 obtain ⟨A',c',e2⟩:=Zm h3.own.row
 refine ⟨A,c,A',c',?_⟩
 unfold Qr
 rw [e1,e2]
 simp
theorem Vx.set3 {X:Zt} {lo hi g:Nat} {W:World} {v:Value} (h:Vx X lo hi W v) (hg:hi≤g∨g < lo) (a b c:Value):
  Vx X lo hi (((W.setCell ⟨g,0,none⟩ a).setCell ⟨g,1,none⟩ b).setCell ⟨g,2,none⟩ c) v:=by
 refine h.keep (lo':=g) (hi':=g+1) ?_ (by omega)
 refine Xm.setCell ?_ (by show g≤g;omega) (by show g < g+1;omega) _
 refine Xm.setCell ?_ (by show g≤g;omega) (by show g < g+1;omega) _
 refine Xm.setCell ?_ (by show g≤g;omega) (by show g < g+1;omega) _
 exact Xm.refl _ _ _
theorem Vx.bel {X:Zt} {lo hi:Nat} {W W':World} {v:Value} (h:Vx X lo hi W v) (hb:Below W.heap.size W W'):Vx X lo hi W' v:=
 h.keep (Xm.of_below hb 0 0) (.inr (Nat.zero_le _))
end Go.Proofs.YteldgdelmaeokaaGreatDoor
