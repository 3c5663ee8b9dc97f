/- FnLeaves returns true for all arguments. No condition. -/
import Derived.Test.YteldgdelmaeokaaDoorXFnLeaves
import Derived.Test.YteldgdelmaeokaaDoorGa
import Derived.Lib.SmallJoins
import Derived.Test.YteldgdelmaeokaaDoorTie
import Derived.Test.YteldgdelmaeokaaDoorCards
import Derived.SevenTiedAt
set_option linter.unusedSimpArgs false
set_option linter.unusedVariables false
namespace Go.Proofs.YteldgdelmaeokaaDoor.FnLeaves
open Go.ChangeShapes Go.WideShapes Go.ChangeAt Go.RowKit Go.Joins
open Go.ChangeMaps (open_string shut_string)
set_option maxRecDepth 100000 in
theorem lifted (os:Os) (started:os.Started) (H:Type) (enc:TypeId × Value→H):
  ReturnsInHanded {} Tryd.checked os 5 .any (fun w args=> (Rows.fnLeavesSpec.pre enc Tryd.prog Tryd.f5 Rows.fnLeavesRow.domain false w args∧laidMetH Tryd.prog laid3 w)∧sizedMet enc Tryd.prog Tryd.f5 (OpenSpec.ofChange Rows.fnLeavesSpec) false w args) (Rows.fnLeavesSpec.post enc Tryd.prog Tryd.f5 false true false false):=by
 refine liftD os started H enc (by kernel_rfl) Tryd.func5
  (ChangeSpec.witness_shaped (enc:=enc) (C:=Tryd.checked) (os:=os) (X:=fun w _=> laidMetH Tryd.prog laid3 w) false (World.doorLaid Tryd.prog 400 os) #[.slice none 0 0] 8 rfl (World.shaped_of_RefB (by kernel_rfl) (by kernel_rfl)) (by kernel_rfl) (by kernel_rfl) (by kernel_rfl) (door_met os _))
  rfl rfl (by kernel_rfl) ?_ ?_
 ·intro vs W ds p hA
  rw [Tryd.params5] at hA
  obtain ⟨v0,vs0,d0,ds0,p0,q0,rfl,rfl,rfl,h0,r0⟩:=trodAll_cons hA
  obtain ⟨rfl,rfl,rfl⟩:=trodAll_nil r0
  rfl
 ·intro W base args ds p hval hA htab
  rw [Tryd.params5] at hA hval
  obtain ⟨v0,vs0,d0,ds0,p0,q0,hargs,rfl,rfl,h0,r0⟩:=trodAll_cons hA
  obtain ⟨rfl,rfl,rfl⟩:=trodAll_nil r0
  obtain rfl:args= #[v0]:=by cases args;simp_all
  obtain ⟨A0,n0,c0,rfl⟩:=okWide_slice Tryd.underlying22 (hval 0 22 v0 rfl rfl)
  obtain ⟨fuel0,hf0⟩:=h0
  simp only [Value.cells] at hf0
  obtain ⟨l0,w0⟩:=trod_bytes Tryd.underlying22 Tryd.underlying5 (by kernel_rfl) hf0
  exact walk _ l0 W w0 htab
theorem row_holds:Rows.FnLeavesSaid:=
 OpenClaim.holds_of_wide 5 Tryd.f5 rfl rfl rfl rfl rfl rfl rfl ⟨rfl,rfl,rfl,rfl,rfl⟩ rfl rfl rfl rfl rfl (by kernel_rfl) Tryd.func5 (by kernel_rfl)
  (of_decide_eq_true (by kernel_rfl)) (by unfold Func.isWrapper;first|(rw [if_pos (by decide+kernel)];kernel_rfl)|(rw [if_neg (by decide+kernel)];exact ⟨rfl,rfl⟩))
  (fun os started H enc _=> lifted os started H enc)
theorem holds:Rows.FnLeavesCardSaid:=
 Claim7.holds_tied_plain_at .later [] [.data, .data, .data] true (true, "9a44491d2125b8a3767f8e4663ee245ee5a033be69301445cf69244eb54474f3") false
  row_holds (fun _ h=> by cases h) (by kernel_rfl) (fun _ h=> by cases h) fnLeaves_row_tie rfl ⟨rfl,rfl⟩ (by kernel_rfl) rfl
  (fun f fn hf hfn=> by
    obtain rfl : f = 5 := Option.some.inj ((show Tryd.prog.funcNamed "loop.example/g00518/laws.FnLeaves" = some 5 by kernel_rfl).symm.trans hf) |>.symm
    obtain rfl:fn=Tryd.f5:=(Option.some.inj (Tryd.func5.symm.trans hfn)).symm
    exact ⟨by kernel_rfl,fun j t ht=> by
     rw [Tryd.params5] at ht
     have hm:t∈ [22]:=by simpa using Array.mem_of_getElem? ht
     have hall:([22].all fun u=> !Tryd.prog.wantsStandIn u)=true:=by kernel_rfl
     exact (show Tryd.prog.wantsStandIn t=false by simpa using List.all_eq_true.1 hall t hm)⟩)
  (by kernel_rfl)
#print axioms holds
end Go.Proofs.YteldgdelmaeokaaDoor.FnLeaves
