/- ReplacePart in the words of Own, spec and impl. No condition but those of the arguments. -/
import Derived.Test.YtbmoeefnoiecaaaGreatDoorGrb
import Derived.Test.YtbmoeefnoiecaaaGreatDoorGrc
import Derived.Test.YtbmoeefnoiecaaaGreatDoorGv
import Derived.Test.YtbmoeefnoiecaaaGreatDoorGn
set_option linter.unusedSimpArgs false
set_option linter.unusedVariables false
namespace Go.Proofs.YtbmoeefnoiecaaaGreatDoor
open Go.RowKit
theorem repV_size {D:List RuleD} {X P FX:Val} {ok:Bool} {S:List ByteArray} {b:Bool} (h:editV D X ok S (repC D P)=(FX,b)):FX.size≤X.size+P.size:=
 editV_size (N:=P.size) (fun k y p _ hc=> by
  unfold repC at hc
  split at hc
  ·cases hc;exact Nat.le_refl _
  ·cases hc) h
theorem specRep_law {w:World} {v u q:Value} {D:List RuleD} {X P FX:Val} {b:Bool} {lo hi lo' hi' lq hq:Nat} {s:ByteArray} (h:OwD D lo hi w v) (hk:okD D) (hv:OwV X lo' hi' w u) (hp:OwV P lq hq w q) (hx:X.size≤1048576) (hy:P.size≤1048576) (hs:s.size≤1048576) (hF:editV D X (spOk isStep s) (spL isStep s) (repC D P)=(FX,b)):
  Calls Tryz.prog 18 #[.agg #[v],u, .string s,q] w (Made2 (OwV FX) (.bool b) w):=by
 obtain ⟨l,rfl,r⟩:=h.sl
 obtain ⟨x,rfl,rfl,rx⟩:=hv.rd
 obtain ⟨y,rfl,rfl,ry⟩:=hp.rd
 have:=specRep_any v l x y s _ w r (Nat.le_refl _) hk.l.1 hk.l.2 rx (by omega) ry (by omega) (by omega)
 rw [hF] at this
 exact this
theorem implRep_law {w0 w:World} {v u q:Value} {D:List RuleD} {X P FX:Val} {b:Bool} {lo hi lo' hi' lq hq:Nat} {s:ByteArray} (h:OwD D lo hi w v) (hk:okD D) (hv:OwV X lo' hi' w u) (hp:OwV P lq hq w q) (hx:X.size≤1048576) (hy:P.size≤1048576) (hs:s.size≤1048576) (hF:editV D X (spOk isStep s) (spL isStep s) (repC D P)=(FX,b)) (ht:Tab w0) (hb:Below w0.heap.size w0 w):
  Calls Tryz.prog 19 #[.agg #[v],u, .string s,q] w (Made2 (OwV FX) (.bool b) w):=by
 obtain ⟨l,rfl,r⟩:=h.sl
 obtain ⟨x,rfl,rfl,rx⟩:=hv.rd
 obtain ⟨y,rfl,rfl,ry⟩:=hp.rd
 have:=implRep_any v l x y s _ w r (Nat.le_refl _) hk.l.1 hk.l.2 rx (by omega) ry (by omega) (by omega) (tab_on ht hb)
 rw [hF] at this
 exact this
end Go.Proofs.YtbmoeefnoiecaaaGreatDoor
