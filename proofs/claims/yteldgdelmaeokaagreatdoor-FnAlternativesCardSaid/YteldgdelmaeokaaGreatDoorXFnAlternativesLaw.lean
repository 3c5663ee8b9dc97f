/- FnAlternatives returns true for all arguments. No condition. -/
import Derived.Test.YteldgdelmaeokaaGreatDoorXFnAlternatives
import Derived.Test.YteldgdelmaeokaaGreatDoorGa
import Derived.Lib.SmallJoins
import Derived.Test.YteldgdelmaeokaaGreatDoorTie
import Derived.Test.YteldgdelmaeokaaGreatDoorCards
import Derived.SevenTiedAt
set_option linter.unusedSimpArgs false
set_option linter.unusedVariables false
set_option maxRecDepth 100000
namespace Go.Proofs.YteldgdelmaeokaaGreatDoor.FnAlternatives
open Go.Proofs.Tryz Go.ChangeShapes Go.WideShapes Go.ChangeAt Go.RowKit Go.Joins
open Go.ChangeMaps (open_string shut_string)
theorem lifted (os:Os) (started:os.Started) (H:Type) (enc:TypeId × Value→H):
  ReturnsInHanded {} checked os 4 .any (fun w args=> (Rows.fnAlternativesSpec.pre enc prog f4 Rows.fnAlternativesRow.domain false w args∧laidMetH prog Iq w)∧sizedMet enc prog f4 (OpenSpec.ofChange Rows.fnAlternativesSpec) false w args) (Rows.fnAlternativesSpec.post enc prog f4 false true false false):=by
 refine liftD os started H enc (by kernel_rfl) func4
  (ChangeSpec.witness_shaped (enc:=enc) (C:=checked) (os:=os) (X:=fun w _=> laidMetH prog Iq w) false (World.doorLaid prog 400 os) #[.slice none 0 0] 8 rfl (World.shaped_of_RefB (by kernel_rfl) (by kernel_rfl)) (by kernel_rfl) (by kernel_rfl) (by kernel_rfl) (door_met os _))
  rfl rfl (by kernel_rfl) ?_ ?_
 ·intro vs W ds p hA
  rw [params4] at hA
  obtain ⟨v0,vs0,d0,ds0,p0,q0,rfl,rfl,rfl,h0,r0⟩:=trodAll_cons hA
  obtain ⟨rfl,rfl,rfl⟩:=trodAll_nil r0
  rfl
 ·intro W base args ds p hval hA htab
  rw [params4] at hA hval
  obtain ⟨v0,vs0,d0,ds0,p0,q0,hargs,rfl,rfl,h0,r0⟩:=trodAll_cons hA
  obtain ⟨rfl,rfl,rfl⟩:=trodAll_nil r0
  obtain rfl:args= #[v0]:=by cases args;simp_all
  obtain ⟨A0,n0,c0,rfl⟩:=okWide_slice underlying22 (hval 0 22 v0 rfl rfl)
  obtain ⟨fuel0,hf0⟩:=h0
  simp only [Value.cells] at hf0
  obtain ⟨l0,w0⟩:=trod_bytes underlying22 underlying5 (by kernel_rfl) hf0
  exact walk _ l0 W w0 htab
theorem row_holds:Rows.FnAlternativesSaid:=
 OpenClaim.holds_of_wide 4 f4 rfl rfl rfl rfl rfl rfl rfl ⟨rfl,rfl,rfl,rfl,rfl⟩ rfl rfl rfl rfl rfl (by kernel_rfl) func4 (by kernel_rfl)
  (of_decide_eq_true (by kernel_rfl)) (by unfold Func.isWrapper;first|(rw [if_pos (by decide+kernel)];kernel_rfl)|(rw [if_neg (by decide+kernel)];exact ⟨rfl,rfl⟩))
  (fun os started H enc _=> lifted os started H enc)
theorem holds:Rows.FnAlternativesCardSaid:=
 Claim7.holds_tied_plain_at .later [] [.data, .data, .data] true (true, "31ea592cba1688372b1dec7349fc104dab9914f5a79827d6aa8d29a35e723b17") false
  row_holds (fun _ h=> by cases h) (by kernel_rfl) (fun _ h=> by cases h) fnAlternatives_row_tie rfl ⟨rfl,rfl⟩ (by kernel_rfl) rfl
  (fun f fn hf hfn=> by
    obtain rfl : f = 4 := Option.some.inj ((show prog.funcNamed "loop.example/g00518/laws.FnAlternatives" = some 4 by kernel_rfl).symm.trans hf) |>.symm
    obtain rfl:fn=f4:=(Fz (func4.symm.trans hfn)).symm
    exact ⟨by kernel_rfl,fun j t ht=> by
     rw [params4] at ht
     have hm:t∈ [22]:=by simpa using Array.mem_of_getElem? ht
     have hall:([22].all fun u=> !prog.wantsStandIn u)=true:=by kernel_rfl
     exact (show prog.wantsStandIn t=false by simpa using List.all_eq_true.1 hall t hm)⟩)
  (by kernel_rfl)
#print axioms holds
end Go.Proofs.YteldgdelmaeokaaGreatDoor.FnAlternatives
