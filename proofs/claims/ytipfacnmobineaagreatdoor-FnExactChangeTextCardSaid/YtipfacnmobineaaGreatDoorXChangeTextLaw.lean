/- FnExactChangeText returns true for all arguments. No condition. -/
import Derived.Test.YtipfacnmobineaaGreatDoorXChangeText
import Derived.Test.YtipfacnmobineaaGreatDoorGa
import Derived.Test.YtipfacnmobineaaGreatDoorGca
import Derived.Lib.SmallJoins
import Derived.Test.YtipfacnmobineaaGreatDoorTie
import Derived.Test.YtipfacnmobineaaGreatDoorCards
import Derived.SevenTiedAt
set_option linter.unusedSimpArgs false
set_option linter.unusedVariables false
namespace Go.Proofs.YtipfacnmobineaaGreatDoor.FnExactChangeText
open Go.ChangeShapes Go.WideShapes Go.ChangeAt Go.RowKit Go.Joins
open Go.ChangeMaps (open_string shut_string)
set_option maxRecDepth 100000 in
theorem lifted (os:Os) (started:os.Started) (H:Type) (enc:TypeId × Value→H):
  ReturnsInHanded {} Tryz.checked os 5 .any (fun w args=> (Rows.fnExactChangeTextSpec.pre enc Tryz.prog Tryz.f5 Rows.fnExactChangeTextRow.domain false w args∧laidMetH Tryz.prog laid3 w)∧sizedMet enc Tryz.prog Tryz.f5 (OpenSpec.ofChange Rows.fnExactChangeTextSpec) false w args) (Rows.fnExactChangeTextSpec.post enc Tryz.prog Tryz.f5 false true false false):=by
 refine liftD os started H enc (by kernel_rfl) Tryz.func5
  (ChangeSpec.witness_shaped (enc:=enc) (C:=Tryz.checked) (os:=os) (X:=fun w _=> laidMetH Tryz.prog laid3 w) false (World.doorLaid Tryz.prog 400 os) #[.agg #[.slice none 0 0], .agg #[.int .i64 0, .slice none 0 0, .slice none 0 0], .agg #[.string ByteArray.empty, .int .i64 0, .slice none 0 0, .slice none 0 0]] 8 rfl (World.shaped_of_RefB (by kernel_rfl) (by kernel_rfl)) (by kernel_rfl) (by kernel_rfl) (by kernel_rfl) (door_met os _))
  rfl rfl (by kernel_rfl) ?_ ?_
 ·intro vs W ds p hA
  rw [Tryz.params5] at hA
  obtain ⟨v0,vs0,d0,ds0,p0,q0,rfl,rfl,rfl,h0,r0⟩:=trodAll_cons hA
  obtain ⟨v1,vs1,d1,ds1,p1,q1,rfl,rfl,rfl,h1,r1⟩:=trodAll_cons r0
  obtain ⟨v2,vs2,d2,ds2,p2,q2,rfl,rfl,rfl,h2,r2⟩:=trodAll_cons r1
  obtain ⟨rfl,rfl,rfl⟩:=trodAll_nil r2
  rfl
 ·intro W base args ds p hval hA htab
  rw [Tryz.params5] at hA hval
  obtain ⟨v0,vs0,d0,ds0,p0,q0,hargs,rfl,rfl,h0,r0⟩:=trodAll_cons hA
  obtain ⟨v1,vs1,d1,ds1,p1,q1,rfl,rfl,rfl,h1,r1⟩:=trodAll_cons r0
  obtain ⟨v2,vs2,d2,ds2,p2,q2,rfl,rfl,rfl,h2,r2⟩:=trodAll_cons r1
  obtain ⟨rfl,rfl,rfl⟩:=trodAll_nil r2
  obtain rfl:args= #[v0,v1,v2]:=by cases args;simp_all
  obtain ⟨cs0,rfl,hsz0⟩:=okWide_struct Tryz.underlying24 (hval 0 24 v0 rfl rfl)
  obtain ⟨fuel0,hf0⟩:=h0
  simp only [Value.cells] at hf0
  obtain ⟨x0,l0,hc0,w0,b0⟩:=trod_desc hf0
  obtain rfl:cs0= #[x0]:=by rw [show #[x0]= [x0].toArray from rfl,←hc0]
  obtain ⟨cs1,rfl,hsz1⟩:=okWide_struct Tryz.underlying28 (hval 1 28 v1 rfl rfl)
  obtain ⟨fuel1,hf1⟩:=h1
  simp only [Value.cells] at hf1
  obtain ⟨e1,he1,b1⟩:=trod_val _ _ _ hf1
  obtain rfl:cs1=(vmCells e1).toArray:=by rw [←he1]
  obtain ⟨cs2,rfl,hsz2⟩:=okWide_struct Tryz.underlying54 (hval 2 54 v2 rfl rfl)
  obtain ⟨fuel2,hf2⟩:=h2
  simp only [Value.cells] at hf2
  obtain ⟨e2,he2,b2⟩:=trod_chg _ _ _ hf2
  obtain rfl:cs2=(cmCells e2).toArray:=by rw [←he2]
  exact walk x0 l0 e1 e2 W w0 b0 b1.1 b1.2 b2.1 b2.2 htab
theorem row_holds:Rows.FnExactChangeTextSaid:=
 OpenClaim.holds_of_wide 5 Tryz.f5 rfl rfl rfl rfl rfl rfl rfl ⟨rfl,rfl,rfl,rfl,rfl⟩ rfl rfl rfl rfl rfl (by kernel_rfl) Tryz.func5 (by kernel_rfl)
  (of_decide_eq_true (by kernel_rfl)) (by unfold Func.isWrapper;first|(rw [if_pos (by decide+kernel)];kernel_rfl)|(rw [if_neg (by decide+kernel)];exact ⟨rfl,rfl⟩))
  (fun os started H enc _=> lifted os started H enc)
theorem holds:Rows.FnExactChangeTextCardSaid:=
 Claim7.holds_tied_plain_at .later [] [.data, .data, .data] true (true, "ee26580f90aae3082e1ef0f767ac02f3ce8b1ca199c7989265789f18849dd4f4") true
  row_holds (fun _ h=> by cases h) (by kernel_rfl) (fun _ h=> by cases h) fnExactChangeText_row_tie rfl ⟨rfl,rfl⟩ (by kernel_rfl) rfl
  (fun f fn hf hfn=> by
    obtain rfl : f = 5 := Option.some.inj ((show Tryz.prog.funcNamed "loop.example/g00518/laws.FnExactChangeText" = some 5 by kernel_rfl).symm.trans hf) |>.symm
    obtain rfl:fn=Tryz.f5:=(Option.some.inj (Tryz.func5.symm.trans hfn)).symm
    exact ⟨by kernel_rfl,fun j t ht=> by
     rw [Tryz.params5] at ht
     have hm:t∈ [24,28,54]:=by simpa using Array.mem_of_getElem? ht
     have hall:([24,28,54].all fun u=> !Tryz.prog.wantsStandIn u)=true:=by kernel_rfl
     exact (show Tryz.prog.wantsStandIn t=false by simpa using List.all_eq_true.1 hall t hm)⟩)
  (by kernel_rfl)
#print axioms holds
end Go.Proofs.YtipfacnmobineaaGreatDoor.FnExactChangeText
