/- InsertItem in the words of Own, spec and impl. No condition but those of the arguments. -/
import Derived.Test.YtbmoeefnoiecaaaGreatDoorGrf
import Derived.Test.YtbmoeefnoiecaaaGreatDoorGre
import Derived.Test.YtbmoeefnoiecaaaGreatDoorGv
import Derived.Test.YtbmoeefnoiecaaaGreatDoorGn
set_option linter.unusedSimpArgs false
set_option linter.unusedVariables false
namespace Go.Proofs.YtbmoeefnoiecaaaGreatDoor
open Go.RowKit
theorem insV_bound {D:List RuleD} {X P FX:Val} {at_:Int} {ok:Bool} {S:List ByteArray} {b:Bool} (h:editV D X ok S (insC D at_ P)=(FX,b)):FX.size≤X.size+(X.size+P.size+1):=
 editV_size (N:=X.size+P.size+1) (fun k y p hw hc=> by
  have h1:=walkV_sz hw
  unfold insC at hc
  split at hc
  ·unfold repC at hc
   split at hc
   ·cases hc;rw [insV_size];omega
   ·cases hc
  ·cases hc) h
theorem specIns_law {w:World} {v u q:Value} {D:List RuleD} {X P FX:Val} {at_:Int} {b:Bool} {lo hi lo' hi' lq hq:Nat} {s:ByteArray} (h:OwD D lo hi w v) (hk:okD D) (hv:OwV X lo' hi' w u) (hp:OwV P lq hq w q) (hx:X.size≤1048576) (hy:P.size≤1048576) (hs:s.size≤1048576) (hF:editV D X (spOk isStep s) (spL isStep s) (insC D at_ P)=(FX,b)):
  Calls Tryz.prog 20 #[.agg #[v],u, .string s, .int .i64 at_,q] w (Made2 (OwV FX) (.bool b) w):=by
 obtain ⟨l,rfl,r⟩:=h.sl
 obtain ⟨x,rfl,rfl,rx⟩:=hv.rd
 obtain ⟨y,rfl,rfl,ry⟩:=hp.rd
 have:=specIns_any v l x y s at_ _ w r (Nat.le_refl _) hk.l.1 hk.l.2 rx (by omega) ry hy (by omega)
 rw [hF] at this
 exact this
theorem implIns_law {w0 w:World} {v u q:Value} {D:List RuleD} {X P FX:Val} {at_:Int} {b:Bool} {lo hi lo' hi' lq hq:Nat} {s:ByteArray} (h:OwD D lo hi w v) (hk:okD D) (hv:OwV X lo' hi' w u) (hp:OwV P lq hq w q) (hx:X.size≤1048576) (hy:P.size≤1048576) (hs:s.size≤1048576) (hF:editV D X (spOk isStep s) (spL isStep s) (insC D at_ P)=(FX,b)) (ht:Tab w0) (hb:Below w0.heap.size w0 w):
  Calls Tryz.prog 21 #[.agg #[v],u, .string s, .int .i64 at_,q] w (Made2 (OwV FX) (.bool b) w):=by
 obtain ⟨l,rfl,r⟩:=h.sl
 obtain ⟨x,rfl,rfl,rx⟩:=hv.rd
 obtain ⟨y,rfl,rfl,ry⟩:=hp.rd
 have:=implIns_any v l x y s at_ _ w r (Nat.le_refl _) hk.l.1 hk.l.2 rx (by omega) ry hy (by omega) (tab_on ht hb)
 rw [hF] at this
 exact this
end Go.Proofs.YtbmoeefnoiecaaaGreatDoor
