/- Out of ValEq, ValO, ValCut: the walks and plain laws that the claim needs. No condition but those that each theorem names. -/
import Derived.Test.YteldgdelmaeokaaGreatDoorGf
import Derived.Test.YteldgdelmaeokaaGreatDoorGa
import Derived.WalkSpells
import Derived.WalkLawsBesides
import Derived.Deep.RegionHeld3
import Derived.Test.YteldgdelmaeokaaGreatDoorGm
import Derived.Test.YteldgdelmaeokaaGreatDoorGn
set_option linter.unusedSimpArgs false
set_option linter.unusedVariables false
namespace Go.Proofs.YteldgdelmaeokaaGreatDoor
open Go.RowKit
theorem Ue.agg {X:Zv} {lo hi:Nat} {w:World} {v:Value} (h:Ue X lo hi w v):∃A c A' c',v= .agg #[.int .i64 X.n, .slice A X.b.length c, .slice A' X.items.length c']:=by
 obtain ⟨x,rfl,rfl,h3⟩:=h
 obtain ⟨A,c,e1⟩:=Zq h3.own.bytes
 obtain ⟨A',c',e2⟩:=Zq h3.own.row
 refine ⟨A,c,A',c',?_⟩
 unfold Qs
 rw [e1,e2]
 simp
theorem Ue.set3 {X:Zv} {lo hi g:Nat} {W:World} {v:Value} (h:Ue X lo hi W v) (hg:hi≤g∨g < lo) (a b c:Value):
  Ue X lo hi (((W.setCell ⟨g,0,none⟩ a).setCell ⟨g,1,none⟩ b).setCell ⟨g,2,none⟩ c) v:=by
 refine h.keep (lo':=g) (hi':=g+1) ?_ (by omega)
 refine Xq.setCell ?_ (by show g≤g;omega) (by show g < g+1;omega) _
 refine Xq.setCell ?_ (by show g≤g;omega) (by show g < g+1;omega) _
 refine Xq.setCell ?_ (by show g≤g;omega) (by show g < g+1;omega) _
 exact Xq.refl _ _ _
theorem Ue.bel {X:Zv} {lo hi:Nat} {W W':World} {v:Value} (h:Ue X lo hi W v) (hb:Below W.heap.size W W'):Ue X lo hi W' v:=
 h.keep (Xq.of_below hb 0 0) (.inr (Eb _))
end Go.Proofs.YteldgdelmaeokaaGreatDoor
