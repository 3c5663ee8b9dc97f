/- Out of ValEq, ValO, ValCut: the walks and plain laws that the claim needs. No condition but those that each theorem names. -/
import Derived.Test.YteldgdelmaeokaaDoorGf
import Derived.Test.YteldgdelmaeokaaDoorGa
import Derived.WalkSpells
import Derived.WalkLawsBesides
import Derived.Deep.RegionHeld3
import Derived.Test.YteldgdelmaeokaaDoorGm
import Derived.Test.YteldgdelmaeokaaDoorGn
set_option linter.unusedSimpArgs false
set_option linter.unusedVariables false
namespace Go.Proofs.YteldgdelmaeokaaDoor
open Go.RowKit
end Go.Proofs.YteldgdelmaeokaaDoor
namespace Go.Proofs.YteldgdelmaeokaaDoor
open Go.RowKit
theorem OwV.agg {X:Val} {lo hi:Nat} {w:World} {v:Value} (h:OwV X lo hi w v):∃A c A' c',v= .agg #[.int .i64 X.n, .slice A X.b.length c, .slice A' X.items.length c']:=by
 obtain ⟨x,rfl,rfl,h3⟩:=h
 obtain ⟨A,c,e1⟩:=own_slice h3.own.bytes
 obtain ⟨A',c',e2⟩:=own_slice h3.own.row
 refine ⟨A,c,A',c',?_⟩
 unfold vmV
 rw [e1,e2]
 simp
end Go.Proofs.YteldgdelmaeokaaDoor
namespace Go.Proofs.YteldgdelmaeokaaDoor
open Go.RowKit
theorem OwV.set3 {X:Val} {lo hi g:Nat} {W:World} {v:Value} (h:OwV X lo hi W v) (hg:hi≤g∨g < lo) (a b c:Value):
  OwV X lo hi (((W.setCell ⟨g,0,none⟩ a).setCell ⟨g,1,none⟩ b).setCell ⟨g,2,none⟩ c) v:=by
 refine h.keep (lo':=g) (hi':=g+1) ?_ (by omega)
 refine Out.setCell ?_ (by show g≤g;omega) (by show g < g+1;omega) _
 refine Out.setCell ?_ (by show g≤g;omega) (by show g < g+1;omega) _
 refine Out.setCell ?_ (by show g≤g;omega) (by show g < g+1;omega) _
 exact Out.refl _ _ _
theorem OwV.bel {X:Val} {lo hi:Nat} {W W':World} {v:Value} (h:OwV X lo hi W v) (hb:Below W.heap.size W W'):OwV X lo hi W' v:=
 h.keep (Out.of_below hb 0 0) (.inr (Nat.zero_le _))
end Go.Proofs.YteldgdelmaeokaaDoor
