/- The walk of the law FnExactChangeText. No condition but those of its arguments. -/
import Derived.Test.YtipfacnmobineaaGreatDoorGte
import Derived.Test.YtipfacnmobineaaGreatDoorGf
import Derived.Test.YtipfacnmobineaaGreatDoorGa
import Derived.Test.YtipfacnmobineaaGreatDoorGv
import Derived.WalkSpells
import Derived.WalkLawsBesides
import Derived.Deep.RegionHeld3
set_option linter.unusedSimpArgs false
set_option linter.unusedVariables false
namespace Go.Proofs.YtipfacnmobineaaGreatDoor.FnExactChangeText
open Go.RowKit
set_option maxHeartbeats 16000000 in
set_option maxRecDepth 100000 in
theorem walk (v0:Value) (l0:List RM) (e1:VM) (e2:CM) (w:World) (hA0:SlD w w.heap.size v0 l0) (ok0:∀r∈l0,r.d.ok) (hA1:e1.rd w w.heap.size) (ok1:e1.d.ok) (hA2:e2.part.rd w w.heap.size) (ok2:e2.d.ok) (htab:Tab w):
  Calls Tryz.prog 5 #[.agg #[v0],vmV e1,cmV e2] w fun e w'=> e= .returned (.bool true)∧Below w.heap.size w w':=by
 obtain ⟨Aa0,ca0,rfl⟩:∃A c,v0= .slice A l0.length c:=by obtain ⟨A,c,h, -⟩:=hA0.open_;exact ⟨A,c,h⟩
 obtain ⟨D0,hD0⟩:∃D,l0.map RM.d=D:=⟨_,rfl⟩
 have HD0:=Lib.hid hD0
 clear hD0
 obtain ⟨nn1,bb1,vb1,vi1,ll1⟩:=e1
 obtain ⟨Av1,cv1,ev1, -⟩:=hA1.bytes.open_
 obtain ⟨Aw1,cw1,ew1, -⟩:=hA1.its.open_
 simp only [VM.vb_mk,VM.b_mk,VM.vi_mk,VM.items_mk] at ev1 ew1
 subst ev1 ew1
 obtain ⟨X1,hX1⟩:∃X,(VM.mk nn1 bb1 (.slice Av1 bb1.length cv1) (.slice Aw1 ll1.length cw1) ll1).d=X:=⟨_,rfl⟩
 have HV1:=Lib.hid (And.intro hA1 hX1)
 clear hA1 hX1 ok1
 simp only [vmV,VM.n_mk,VM.vb_mk,VM.vi_mk]
 obtain ⟨pp2,nn2,bb2,vb2,vi2,ll2⟩:=e2
 obtain ⟨Av2,cv2,ev2, -⟩:=hA2.bytes.open_
 obtain ⟨Aw2,cw2,ew2, -⟩:=hA2.its.open_
 simp only [VM.vb_mk,VM.b_mk,VM.vi_mk,VM.items_mk] at ev2 ew2
 subst ev2 ew2
 obtain ⟨C2,hC2⟩:∃X,(CM.mk pp2 (VM.mk nn2 bb2 (.slice Av2 bb2.length cv2) (.slice Aw2 ll2.length cw2) ll2)).d=X:=⟨_,rfl⟩
 have HV2:=Lib.hid (And.intro hA2 (And.intro hC2 ok2))
 clear hA2 hC2 ok2
 simp only [cmV,VM.n_mk,VM.vb_mk,VM.vi_mk]
 have HTab:=Lib.hid htab
 clear htab
 obtain ⟨FT,hF⟩:∃a,chgT D0 X1 C2=a:=⟨_,rfl⟩
 have HF:=Lib.hid hF
 clear hF
 go_enter Tryz.func5,Tryz.ntmps5
 have b0:Below w.heap.size w (w.alloc (.cells #[.slice Aa0 l0.length ca0] 24)):=(Below.refl w.heap.size w).alloc ((Below.refl w.heap.size w)).size _
 have v_aD:=Lib.hid (show w.heap.size < (w.alloc (.cells #[.slice Aa0 l0.length ca0] 24)).heap.size by simp)
 have K_aD:K1 (w.alloc (.cells #[.slice Aa0 l0.length ca0] 24)) (w.heap.size) (.slice Aa0 l0.length ca0):=⟨by simp [go_sem]⟩
 have b1:Below w.heap.size w ((w.alloc (.cells #[.slice Aa0 l0.length ca0] 24)).alloc (.cells #[.int .i64 nn1, .slice Av1 bb1.length cv1, .slice Aw1 ll1.length cw1] 28)):=b0.alloc (b0).size _
 replace v_aD:=Lib.hid (Nat.lt_of_lt_of_le v_aD.out (Below.size (Below.alloc (Below.refl _ _) (Nat.le_refl _) (.cells #[.int .i64 nn1, .slice Av1 bb1.length cv1, .slice Aw1 ll1.length cw1] 28))))
 have v_aV:=Lib.hid (show w.heap.size+1 < ((w.alloc (.cells #[.slice Aa0 l0.length ca0] 24)).alloc (.cells #[.int .i64 nn1, .slice Av1 bb1.length cv1, .slice Aw1 ll1.length cw1] 28)).heap.size by simp)
 replace K_aD:=K_aD.alloc (.cells #[.int .i64 nn1, .slice Av1 bb1.length cv1, .slice Aw1 ll1.length cw1] 28)
 have K_aV:K3 ((w.alloc (.cells #[.slice Aa0 l0.length ca0] 24)).alloc (.cells #[.int .i64 nn1, .slice Av1 bb1.length cv1, .slice Aw1 ll1.length cw1] 28)) (w.heap.size+1) (.int .i64 nn1) (.slice Av1 bb1.length cv1) (.slice Aw1 ll1.length cw1):=⟨by simp [go_sem],by simp [go_sem],by simp [go_sem]⟩
 have b2:Below w.heap.size w (((w.alloc (.cells #[.slice Aa0 l0.length ca0] 24)).alloc (.cells #[.int .i64 nn1, .slice Av1 bb1.length cv1, .slice Aw1 ll1.length cw1] 28)).alloc (.cells #[.string pp2, .int .i64 nn2, .slice Av2 bb2.length cv2, .slice Aw2 ll2.length cw2] 54)):=b1.alloc (b1).size _
 replace v_aD:=Lib.hid (Nat.lt_of_lt_of_le v_aD.out (Below.size (Below.alloc (Below.refl _ _) (Nat.le_refl _) (.cells #[.string pp2, .int .i64 nn2, .slice Av2 bb2.length cv2, .slice Aw2 ll2.length cw2] 54))))
 replace v_aV:=Lib.hid (Nat.lt_of_lt_of_le v_aV.out (Below.size (Below.alloc (Below.refl _ _) (Nat.le_refl _) (.cells #[.string pp2, .int .i64 nn2, .slice Av2 bb2.length cv2, .slice Aw2 ll2.length cw2] 54))))
 have v_aC:=Lib.hid (show w.heap.size+1+1 < (((w.alloc (.cells #[.slice Aa0 l0.length ca0] 24)).alloc (.cells #[.int .i64 nn1, .slice Av1 bb1.length cv1, .slice Aw1 ll1.length cw1] 28)).alloc (.cells #[.string pp2, .int .i64 nn2, .slice Av2 bb2.length cv2, .slice Aw2 ll2.length cw2] 54)).heap.size by simp)
 replace K_aD:=K_aD.alloc (.cells #[.string pp2, .int .i64 nn2, .slice Av2 bb2.length cv2, .slice Aw2 ll2.length cw2] 54)
 replace K_aV:=K_aV.alloc (.cells #[.string pp2, .int .i64 nn2, .slice Av2 bb2.length cv2, .slice Aw2 ll2.length cw2] 54)
 have K_aC:K4 (((w.alloc (.cells #[.slice Aa0 l0.length ca0] 24)).alloc (.cells #[.int .i64 nn1, .slice Av1 bb1.length cv1, .slice Aw1 ll1.length cw1] 28)).alloc (.cells #[.string pp2, .int .i64 nn2, .slice Av2 bb2.length cv2, .slice Aw2 ll2.length cw2] 54)) (w.heap.size+1+1) (.string pp2) (.int .i64 nn2) (.slice Av2 bb2.length cv2) (.slice Aw2 ll2.length cw2):=⟨by simp [go_sem],by simp [go_sem],by simp [go_sem],by simp [go_sem]⟩
 have c_aD_0:=K_aD.c0
 go_wp2_with fail
 refine (szD_law hA0 b2 ok0 (by omega) (by omega)).mono ?_
 rintro e W3 ⟨z3,rfl,bel3,hr3⟩
 have b3:=below_step bel3 b2
 replace v_aD:=Lib.hid (Nat.lt_of_lt_of_le v_aD.out bel3.size)
 replace v_aV:=Lib.hid (Nat.lt_of_lt_of_le v_aV.out bel3.size)
 replace v_aC:=Lib.hid (Nat.lt_of_lt_of_le v_aC.out bel3.size)
 replace c_aD_0:=cell_later bel3 c_aD_0
 replace K_aD:=K_aD.later bel3
 replace K_aV:=K_aV.later bel3
 replace K_aC:=K_aC.later bel3
 clear bel3
 clear b2
 rcases hr3 with rfl|⟨q3,y3,hs0⟩
 ·have HB:=Lib.hid b3
  clear hA0 ok0
  go_wp2
  go_ret
  exact ⟨rfl,HB.out⟩
 have ok_0:=Lib.hid (okD_of ok0 hs0 HD0.out)
 clear c_aD_0
 have c_aV_0:=K_aV.c0
 have c_aV_1:=K_aV.c1
 have c_aV_2:=K_aV.c2
 go_wp2_with fail
 refine (szV_law HV1.out.1 HV1.out.2 rfl b3 q3 (by omega)).mono ?_
 rintro e W4 ⟨z4,rfl,bel4,hr4⟩
 have b4:=below_step bel4 b3
 replace v_aD:=Lib.hid (Nat.lt_of_lt_of_le v_aD.out bel4.size)
 replace v_aV:=Lib.hid (Nat.lt_of_lt_of_le v_aV.out bel4.size)
 replace v_aC:=Lib.hid (Nat.lt_of_lt_of_le v_aC.out bel4.size)
 replace c_aV_0:=cell_later bel4 c_aV_0
 replace c_aV_1:=cell_later bel4 c_aV_1
 replace c_aV_2:=cell_later bel4 c_aV_2
 replace K_aD:=K_aD.later bel4
 replace K_aV:=K_aV.later bel4
 replace K_aC:=K_aC.later bel4
 clear bel4
 clear b3
 rcases hr4 with rfl|⟨q4,y4,hs1⟩
 ·have HB:=Lib.hid b4
  clear hA0 ok0
  go_wp2
  go_ret
  exact ⟨rfl,HB.out⟩
 clear c_aV_0 c_aV_1 c_aV_2
 have c_aC_0:=K_aC.c0
 have c_aC_1:=K_aC.c1
 have c_aC_2:=K_aC.c2
 have c_aC_3:=K_aC.c3
 go_wp2_with fail
 refine (szC1_law HV2.out.1 HV2.out.2.2 HV2.out.2.1 rfl b4 q4 (by omega)).mono ?_
 rintro e W5 ⟨z5,rfl,bel5,hr5⟩
 have b5:=below_step bel5 b4
 replace v_aD:=Lib.hid (Nat.lt_of_lt_of_le v_aD.out bel5.size)
 replace v_aV:=Lib.hid (Nat.lt_of_lt_of_le v_aV.out bel5.size)
 replace v_aC:=Lib.hid (Nat.lt_of_lt_of_le v_aC.out bel5.size)
 replace c_aC_0:=cell_later bel5 c_aC_0
 replace c_aC_1:=cell_later bel5 c_aC_1
 replace c_aC_2:=cell_later bel5 c_aC_2
 replace c_aC_3:=cell_later bel5 c_aC_3
 replace K_aD:=K_aD.later bel5
 replace K_aV:=K_aV.later bel5
 replace K_aC:=K_aC.later bel5
 clear bel5
 clear b4
 rcases hr5 with rfl|⟨q5,y5,hs2⟩
 ·have HB:=Lib.hid b5
  clear hA0 ok0
  go_wp2
  go_ret
  exact ⟨rfl,HB.out⟩
 clear c_aC_0 c_aC_1 c_aC_2 c_aC_3
 have c_aD_0:=K_aD.c0
 have c_aV_0:=K_aV.c0
 have c_aV_1:=K_aV.c1
 have c_aV_2:=K_aV.c2
 have c_aC_0:=K_aC.c0
 have c_aC_1:=K_aC.c1
 have c_aC_2:=K_aC.c2
 have c_aC_3:=K_aC.c3
 go_wp2_with fail
 replace K_aD:=K_aD.drew
 replace K_aV:=K_aV.drew
 replace K_aC:=K_aC.drew
 refine wp_region_held_drew (S:=(fun w9=> w9.cell? ⟨w.heap.size,0,none⟩=some (.slice Aa0 l0.length ca0)∧w9.cell? ⟨w.heap.size+1,0,none⟩=some (.int .i64 nn1)∧w9.cell? ⟨w.heap.size+1,1,none⟩=some (.slice Av1 bb1.length cv1)∧w9.cell? ⟨w.heap.size+1,2,none⟩=some (.slice Aw1 ll1.length cw1)∧w9.cell? ⟨w.heap.size+1+1,0,none⟩=some (.string pp2)∧w9.cell? ⟨w.heap.size+1+1,1,none⟩=some (.int .i64 nn2)∧w9.cell? ⟨w.heap.size+1+1,2,none⟩=some (.slice Av2 bb2.length cv2)∧w9.cell? ⟨w.heap.size+1+1,3,none⟩=some (.slice Aw2 ll2.length cw2))) (by kernel_rfl) ?_ (fun hHeld=> ?_)
 ·(try dsimp only);exact ⟨c_aD_0,c_aV_0,c_aV_1,c_aV_2,c_aC_0,c_aC_1,c_aC_2,c_aC_3⟩
 refine rgTake 0 (some 28) hHeld _ ?_;try go_frame
 refine rgTake 2 (some 30) hHeld _ ?_;try go_frame
 refine rgTake 4 (some 32) hHeld _ ?_;try go_frame
 refine rgStep 1 (fun K hK=> ?_)
 go_simp
 refine (toD_law hA0 (b5).drew hs0 HD0.out).mono ?_;rintro e W6 ⟨t0,rfl,own_t0,bel6⟩;have ob_aD_t0:=v_aD;have ob_aV_t0:=v_aV;have ob_aC_t0:=v_aC;have pl_t0:=Lib.hid ((b5).drew).size;have b6:=below_step bel6 (b5).drew;replace v_aD:=Lib.hid (Nat.lt_of_lt_of_le v_aD.out bel6.size);replace v_aV:=Lib.hid (Nat.lt_of_lt_of_le v_aV.out bel6.size);replace v_aC:=Lib.hid (Nat.lt_of_lt_of_le v_aC.out bel6.size);have u_t0:=Lib.hid (show W6.heap.size≤W6.heap.size from Nat.le_refl _);replace c_aD_0:=cell_later bel6 c_aD_0;replace c_aV_0:=cell_later bel6 c_aV_0;replace c_aV_1:=cell_later bel6 c_aV_1;replace c_aV_2:=cell_later bel6 c_aV_2;replace c_aC_0:=cell_later bel6 c_aC_0;replace c_aC_1:=cell_later bel6 c_aC_1;replace c_aC_2:=cell_later bel6 c_aC_2;replace c_aC_3:=cell_later bel6 c_aC_3;replace K_aD:=K_aD.later bel6;replace K_aV:=K_aV.later bel6;replace K_aC:=K_aC.later bel6;obtain ⟨A_t0,c_t0,rfl⟩:=own_t0.slice
 (try go_wp2_with fail)
 refine hK.out _ _ ?_ (fun hHeld=> ?_)
 ·(try dsimp only);exact ⟨c_aD_0,c_aV_0,c_aV_1,c_aV_2,c_aC_0,c_aC_1,c_aC_2,c_aC_3⟩
 clear hK K
 try go_frame
 refine rgStep 3 (fun K hK=> ?_)
 go_simp
 refine (toV_law HV1.out.1 HV1.out.2 rfl b6 hs1).mono ?_;rintro e W7 ⟨u_t1,rfl,own_t1,bel7⟩;have o_t0_t1:=u_t0;have ob_aD_t1:=v_aD;have ob_aV_t1:=v_aV;have ob_aC_t1:=v_aC;have pl_t1:=Lib.hid (b6).size;have b7:=below_step bel7 b6;replace u_t0:=Lib.hid (Nat.le_trans u_t0.out bel7.size);replace v_aD:=Lib.hid (Nat.lt_of_lt_of_le v_aD.out bel7.size);replace v_aV:=Lib.hid (Nat.lt_of_lt_of_le v_aV.out bel7.size);replace v_aC:=Lib.hid (Nat.lt_of_lt_of_le v_aC.out bel7.size);have u_t1:=Lib.hid (show W7.heap.size≤W7.heap.size from Nat.le_refl _);replace own_t0:=own_t0.keep (Out.of_below bel7 0 0) (.inr (Nat.zero_le _));replace c_aD_0:=cell_later bel7 c_aD_0;replace c_aV_0:=cell_later bel7 c_aV_0;replace c_aV_1:=cell_later bel7 c_aV_1;replace c_aV_2:=cell_later bel7 c_aV_2;replace c_aC_0:=cell_later bel7 c_aC_0;replace c_aC_1:=cell_later bel7 c_aC_1;replace c_aC_2:=cell_later bel7 c_aC_2;replace c_aC_3:=cell_later bel7 c_aC_3;replace K_aD:=K_aD.later bel7;replace K_aV:=K_aV.later bel7;replace K_aC:=K_aC.later bel7;obtain ⟨Ap_t1,cp_t1,Aq_t1,cq_t1,rfl⟩:=own_t1.agg
 (try go_wp2_with fail)
 refine hK.out _ _ ?_ (fun hHeld=> ?_)
 ·(try dsimp only);exact ⟨c_aD_0,c_aV_0,c_aV_1,c_aV_2,c_aC_0,c_aC_1,c_aC_2,c_aC_3⟩
 clear hK K
 try go_frame
 refine rgStep 5 (fun K hK=> ?_)
 go_simp
 refine (toC1_law HV2.out.1 HV2.out.2.1 rfl b7 hs2).mono ?_;rintro e W8 ⟨u_t2,rfl,own_t2,bel8⟩;have o_t0_t2:=u_t0;have o_t1_t2:=u_t1;have ob_aD_t2:=v_aD;have ob_aV_t2:=v_aV;have ob_aC_t2:=v_aC;have pl_t2:=Lib.hid (b7).size;have b8:=below_step bel8 b7;replace u_t0:=Lib.hid (Nat.le_trans u_t0.out bel8.size);replace u_t1:=Lib.hid (Nat.le_trans u_t1.out bel8.size);replace v_aD:=Lib.hid (Nat.lt_of_lt_of_le v_aD.out bel8.size);replace v_aV:=Lib.hid (Nat.lt_of_lt_of_le v_aV.out bel8.size);replace v_aC:=Lib.hid (Nat.lt_of_lt_of_le v_aC.out bel8.size);have u_t2:=Lib.hid (show W8.heap.size≤W8.heap.size from Nat.le_refl _);replace own_t0:=own_t0.keep (Out.of_below bel8 0 0) (.inr (Nat.zero_le _));replace own_t1:=own_t1.keep (Out.of_below bel8 0 0) (.inr (Nat.zero_le _));replace c_aD_0:=cell_later bel8 c_aD_0;replace c_aV_0:=cell_later bel8 c_aV_0;replace c_aV_1:=cell_later bel8 c_aV_1;replace c_aV_2:=cell_later bel8 c_aV_2;replace c_aC_0:=cell_later bel8 c_aC_0;replace c_aC_1:=cell_later bel8 c_aC_1;replace c_aC_2:=cell_later bel8 c_aC_2;replace c_aC_3:=cell_later bel8 c_aC_3;replace K_aD:=K_aD.later bel8;replace K_aV:=K_aV.later bel8;replace K_aC:=K_aC.later bel8;obtain ⟨Ap_t2,cp_t2,Aq_t2,cq_t2,rfl⟩:=own_t2.agg
 (try go_wp2_with fail)
 refine hK.out _ _ ?_ (fun hHeld=> ?_)
 ·(try dsimp only);exact ⟨c_aD_0,c_aV_0,c_aV_1,c_aV_2,c_aC_0,c_aC_1,c_aC_2,c_aC_3⟩
 clear hK K
 try go_frame
 refine rgStep 6 (fun K hK=> ?_)
 go_simp
 refine (specText_law own_t0 ok_0.out own_t1 own_t2 hs1 hs2 HF.out).mono ?_;rintro e W9 ⟨rfl,bel9⟩;have b9:=below_step bel9 b8;replace u_t0:=Lib.hid (Nat.le_trans u_t0.out bel9.size);replace u_t1:=Lib.hid (Nat.le_trans u_t1.out bel9.size);replace u_t2:=Lib.hid (Nat.le_trans u_t2.out bel9.size);replace v_aD:=Lib.hid (Nat.lt_of_lt_of_le v_aD.out bel9.size);replace v_aV:=Lib.hid (Nat.lt_of_lt_of_le v_aV.out bel9.size);replace v_aC:=Lib.hid (Nat.lt_of_lt_of_le v_aC.out bel9.size);replace own_t0:=own_t0.keep (Out.of_below bel9 0 0) (.inr (Nat.zero_le _));replace own_t1:=own_t1.keep (Out.of_below bel9 0 0) (.inr (Nat.zero_le _));replace own_t2:=own_t2.keep (Out.of_below bel9 0 0) (.inr (Nat.zero_le _));replace c_aD_0:=cell_later bel9 c_aD_0;replace c_aV_0:=cell_later bel9 c_aV_0;replace c_aV_1:=cell_later bel9 c_aV_1;replace c_aV_2:=cell_later bel9 c_aV_2;replace c_aC_0:=cell_later bel9 c_aC_0;replace c_aC_1:=cell_later bel9 c_aC_1;replace c_aC_2:=cell_later bel9 c_aC_2;replace c_aC_3:=cell_later bel9 c_aC_3;replace K_aD:=K_aD.later bel9;replace K_aV:=K_aV.later bel9;replace K_aC:=K_aC.later bel9;clear own_t0;clear own_t1;clear own_t2
 (try go_wp2_with fail)
 refine hK.out _ _ ?_ (fun hHeld=> ?_)
 ·(try dsimp only);exact ⟨c_aD_0,c_aV_0,c_aV_1,c_aV_2,c_aC_0,c_aC_1,c_aC_2,c_aC_3⟩
 clear hK K
 try go_frame
 refine rgTake 7 (some 8) hHeld _ ?_;try go_frame
 refine wpAnyH_done (by kernel_rfl) ?_ _
 clear c_aD_0 c_aV_0 c_aV_1 c_aV_2 c_aC_0 c_aC_1 c_aC_2 c_aC_3
 have c_aD_0:=K_aD.c0
 go_wp2_with fail
 refine (toD_law hA0 b9 hs0 HD0.out).mono ?_
 rintro e W10 ⟨x0,rfl,own_x0,bel10⟩
 have ob_aD_x0:=v_aD
 have ob_aV_x0:=v_aV
 have ob_aC_x0:=v_aC
 have pl_x0:=Lib.hid (b9).size
 have b10:=below_step bel10 b9
 replace v_aD:=Lib.hid (Nat.lt_of_lt_of_le v_aD.out bel10.size)
 replace v_aV:=Lib.hid (Nat.lt_of_lt_of_le v_aV.out bel10.size)
 replace v_aC:=Lib.hid (Nat.lt_of_lt_of_le v_aC.out bel10.size)
 have u_x0:=Lib.hid (show W10.heap.size≤W10.heap.size from Nat.le_refl _)
 replace c_aD_0:=cell_later bel10 c_aD_0
 replace K_aD:=K_aD.later bel10
 replace K_aV:=K_aV.later bel10
 replace K_aC:=K_aC.later bel10
 clear bel10
 clear b9
 obtain ⟨A_x0,c_x0,rfl⟩:=own_x0.slice
 clear c_aD_0
 have b11:Below w.heap.size w (W10.alloc (.cells #[.slice A_x0 D0.length c_x0] 40)):=b10.alloc (b10).size _
 have or_x0_x0:=u_x0
 replace u_x0:=Lib.hid (Nat.le_trans u_x0.out (Below.size (Below.alloc (Below.refl _ _) (Nat.le_refl _) (.cells #[.slice A_x0 D0.length c_x0] 40))))
 replace v_aD:=Lib.hid (Nat.lt_of_lt_of_le v_aD.out (Below.size (Below.alloc (Below.refl _ _) (Nat.le_refl _) (.cells #[.slice A_x0 D0.length c_x0] 40))))
 replace v_aV:=Lib.hid (Nat.lt_of_lt_of_le v_aV.out (Below.size (Below.alloc (Below.refl _ _) (Nat.le_refl _) (.cells #[.slice A_x0 D0.length c_x0] 40))))
 replace v_aC:=Lib.hid (Nat.lt_of_lt_of_le v_aC.out (Below.size (Below.alloc (Below.refl _ _) (Nat.le_refl _) (.cells #[.slice A_x0 D0.length c_x0] 40))))
 have v_x0:=Lib.hid (show W10.heap.size < (W10.alloc (.cells #[.slice A_x0 D0.length c_x0] 40)).heap.size by simp)
 replace K_aD:=K_aD.alloc (.cells #[.slice A_x0 D0.length c_x0] 40)
 replace K_aV:=K_aV.alloc (.cells #[.slice A_x0 D0.length c_x0] 40)
 replace K_aC:=K_aC.alloc (.cells #[.slice A_x0 D0.length c_x0] 40)
 replace own_x0:=own_x0.keep (Out.of_below ((Below.refl _ _).alloc (Nat.le_refl _) (.cells #[.slice A_x0 D0.length c_x0] 40)) 0 0) (.inr (Nat.zero_le _))
 have K_x0:K1 (W10.alloc (.cells #[.slice A_x0 D0.length c_x0] 40)) (W10.heap.size) (.slice A_x0 D0.length c_x0):=⟨by simp [go_sem]⟩
 have c_aV_0:=K_aV.c0
 have c_aV_1:=K_aV.c1
 have c_aV_2:=K_aV.c2
 go_wp2_with fail
 refine (toV_law HV1.out.1 HV1.out.2 rfl b11 hs1).mono ?_
 rintro e W12 ⟨u_x1,rfl,own_x1,bel12⟩
 have o_x0_x1:=u_x0
 have ob_aD_x1:=v_aD
 have ob_aV_x1:=v_aV
 have ob_aC_x1:=v_aC
 have ob_x0_x1:=v_x0
 have pl_x1:=Lib.hid (b11).size
 have b12:=below_step bel12 b11
 replace u_x0:=Lib.hid (Nat.le_trans u_x0.out bel12.size)
 replace v_aD:=Lib.hid (Nat.lt_of_lt_of_le v_aD.out bel12.size)
 replace v_aV:=Lib.hid (Nat.lt_of_lt_of_le v_aV.out bel12.size)
 replace v_aC:=Lib.hid (Nat.lt_of_lt_of_le v_aC.out bel12.size)
 replace v_x0:=Lib.hid (Nat.lt_of_lt_of_le v_x0.out bel12.size)
 have u_x1:=Lib.hid (show W12.heap.size≤W12.heap.size from Nat.le_refl _)
 replace own_x0:=own_x0.keep (Out.of_below bel12 0 0) (.inr (Nat.zero_le _))
 replace c_aV_0:=cell_later bel12 c_aV_0
 replace c_aV_1:=cell_later bel12 c_aV_1
 replace c_aV_2:=cell_later bel12 c_aV_2
 replace K_aD:=K_aD.later bel12
 replace K_aV:=K_aV.later bel12
 replace K_aC:=K_aC.later bel12
 replace K_x0:=K_x0.later bel12
 clear bel12
 clear b11
 obtain ⟨Ap_x1,cp_x1,Aq_x1,cq_x1,rfl⟩:=own_x1.agg
 clear c_aV_0 c_aV_1 c_aV_2
 have b13:Below w.heap.size w (W12.alloc (.cells #[.int .i64 X1.n, .slice Ap_x1 X1.b.length cp_x1, .slice Aq_x1 X1.items.length cq_x1] 35)):=b12.alloc (b12).size _
 have or_x0_x1:=u_x0
 replace u_x0:=Lib.hid (Nat.le_trans u_x0.out (Below.size (Below.alloc (Below.refl _ _) (Nat.le_refl _) (.cells #[.int .i64 X1.n, .slice Ap_x1 X1.b.length cp_x1, .slice Aq_x1 X1.items.length cq_x1] 35))))
 have or_x1_x1:=u_x1
 replace u_x1:=Lib.hid (Nat.le_trans u_x1.out (Below.size (Below.alloc (Below.refl _ _) (Nat.le_refl _) (.cells #[.int .i64 X1.n, .slice Ap_x1 X1.b.length cp_x1, .slice Aq_x1 X1.items.length cq_x1] 35))))
 replace v_aD:=Lib.hid (Nat.lt_of_lt_of_le v_aD.out (Below.size (Below.alloc (Below.refl _ _) (Nat.le_refl _) (.cells #[.int .i64 X1.n, .slice Ap_x1 X1.b.length cp_x1, .slice Aq_x1 X1.items.length cq_x1] 35))))
 replace v_aV:=Lib.hid (Nat.lt_of_lt_of_le v_aV.out (Below.size (Below.alloc (Below.refl _ _) (Nat.le_refl _) (.cells #[.int .i64 X1.n, .slice Ap_x1 X1.b.length cp_x1, .slice Aq_x1 X1.items.length cq_x1] 35))))
 replace v_aC:=Lib.hid (Nat.lt_of_lt_of_le v_aC.out (Below.size (Below.alloc (Below.refl _ _) (Nat.le_refl _) (.cells #[.int .i64 X1.n, .slice Ap_x1 X1.b.length cp_x1, .slice Aq_x1 X1.items.length cq_x1] 35))))
 replace v_x0:=Lib.hid (Nat.lt_of_lt_of_le v_x0.out (Below.size (Below.alloc (Below.refl _ _) (Nat.le_refl _) (.cells #[.int .i64 X1.n, .slice Ap_x1 X1.b.length cp_x1, .slice Aq_x1 X1.items.length cq_x1] 35))))
 have v_x1:=Lib.hid (show W12.heap.size < (W12.alloc (.cells #[.int .i64 X1.n, .slice Ap_x1 X1.b.length cp_x1, .slice Aq_x1 X1.items.length cq_x1] 35)).heap.size by simp)
 replace K_aD:=K_aD.alloc (.cells #[.int .i64 X1.n, .slice Ap_x1 X1.b.length cp_x1, .slice Aq_x1 X1.items.length cq_x1] 35)
 replace K_aV:=K_aV.alloc (.cells #[.int .i64 X1.n, .slice Ap_x1 X1.b.length cp_x1, .slice Aq_x1 X1.items.length cq_x1] 35)
 replace K_aC:=K_aC.alloc (.cells #[.int .i64 X1.n, .slice Ap_x1 X1.b.length cp_x1, .slice Aq_x1 X1.items.length cq_x1] 35)
 replace K_x0:=K_x0.alloc (.cells #[.int .i64 X1.n, .slice Ap_x1 X1.b.length cp_x1, .slice Aq_x1 X1.items.length cq_x1] 35)
 replace own_x0:=own_x0.keep (Out.of_below ((Below.refl _ _).alloc (Nat.le_refl _) (.cells #[.int .i64 X1.n, .slice Ap_x1 X1.b.length cp_x1, .slice Aq_x1 X1.items.length cq_x1] 35)) 0 0) (.inr (Nat.zero_le _))
 replace own_x1:=own_x1.keep (Out.of_below ((Below.refl _ _).alloc (Nat.le_refl _) (.cells #[.int .i64 X1.n, .slice Ap_x1 X1.b.length cp_x1, .slice Aq_x1 X1.items.length cq_x1] 35)) 0 0) (.inr (Nat.zero_le _))
 have K_x1:K3 (W12.alloc (.cells #[.int .i64 X1.n, .slice Ap_x1 X1.b.length cp_x1, .slice Aq_x1 X1.items.length cq_x1] 35)) (W12.heap.size) (.int .i64 X1.n) (.slice Ap_x1 X1.b.length cp_x1) (.slice Aq_x1 X1.items.length cq_x1):=⟨by simp [go_sem],by simp [go_sem],by simp [go_sem]⟩
 have c_aC_0:=K_aC.c0
 have c_aC_1:=K_aC.c1
 have c_aC_2:=K_aC.c2
 have c_aC_3:=K_aC.c3
 go_wp2_with fail
 refine (toC1_law HV2.out.1 HV2.out.2.1 rfl b13 hs2).mono ?_
 rintro e W14 ⟨u_x2,rfl,own_x2,bel14⟩
 have o_x0_x2:=u_x0
 have o_x1_x2:=u_x1
 have ob_aD_x2:=v_aD
 have ob_aV_x2:=v_aV
 have ob_aC_x2:=v_aC
 have ob_x0_x2:=v_x0
 have ob_x1_x2:=v_x1
 have pl_x2:=Lib.hid (b13).size
 have b14:=below_step bel14 b13
 replace u_x0:=Lib.hid (Nat.le_trans u_x0.out bel14.size)
 replace u_x1:=Lib.hid (Nat.le_trans u_x1.out bel14.size)
 replace v_aD:=Lib.hid (Nat.lt_of_lt_of_le v_aD.out bel14.size)
 replace v_aV:=Lib.hid (Nat.lt_of_lt_of_le v_aV.out bel14.size)
 replace v_aC:=Lib.hid (Nat.lt_of_lt_of_le v_aC.out bel14.size)
 replace v_x0:=Lib.hid (Nat.lt_of_lt_of_le v_x0.out bel14.size)
 replace v_x1:=Lib.hid (Nat.lt_of_lt_of_le v_x1.out bel14.size)
 have u_x2:=Lib.hid (show W14.heap.size≤W14.heap.size from Nat.le_refl _)
 replace own_x0:=own_x0.keep (Out.of_below bel14 0 0) (.inr (Nat.zero_le _))
 replace own_x1:=own_x1.keep (Out.of_below bel14 0 0) (.inr (Nat.zero_le _))
 replace c_aC_0:=cell_later bel14 c_aC_0
 replace c_aC_1:=cell_later bel14 c_aC_1
 replace c_aC_2:=cell_later bel14 c_aC_2
 replace c_aC_3:=cell_later bel14 c_aC_3
 replace K_aD:=K_aD.later bel14
 replace K_aV:=K_aV.later bel14
 replace K_aC:=K_aC.later bel14
 replace K_x0:=K_x0.later bel14
 replace K_x1:=K_x1.later bel14
 clear bel14
 clear b13
 obtain ⟨Ap_x2,cp_x2,Aq_x2,cq_x2,rfl⟩:=own_x2.agg
 clear c_aC_0 c_aC_1 c_aC_2 c_aC_3
 have b15:Below w.heap.size w (W14.alloc (.cells #[.string C2.path, .int .i64 C2.part.n, .slice Ap_x2 C2.part.b.length cp_x2, .slice Aq_x2 C2.part.items.length cq_x2] 58)):=b14.alloc (b14).size _
 have or_x0_x2:=u_x0
 replace u_x0:=Lib.hid (Nat.le_trans u_x0.out (Below.size (Below.alloc (Below.refl _ _) (Nat.le_refl _) (.cells #[.string C2.path, .int .i64 C2.part.n, .slice Ap_x2 C2.part.b.length cp_x2, .slice Aq_x2 C2.part.items.length cq_x2] 58))))
 have or_x1_x2:=u_x1
 replace u_x1:=Lib.hid (Nat.le_trans u_x1.out (Below.size (Below.alloc (Below.refl _ _) (Nat.le_refl _) (.cells #[.string C2.path, .int .i64 C2.part.n, .slice Ap_x2 C2.part.b.length cp_x2, .slice Aq_x2 C2.part.items.length cq_x2] 58))))
 have or_x2_x2:=u_x2
 replace u_x2:=Lib.hid (Nat.le_trans u_x2.out (Below.size (Below.alloc (Below.refl _ _) (Nat.le_refl _) (.cells #[.string C2.path, .int .i64 C2.part.n, .slice Ap_x2 C2.part.b.length cp_x2, .slice Aq_x2 C2.part.items.length cq_x2] 58))))
 replace v_aD:=Lib.hid (Nat.lt_of_lt_of_le v_aD.out (Below.size (Below.alloc (Below.refl _ _) (Nat.le_refl _) (.cells #[.string C2.path, .int .i64 C2.part.n, .slice Ap_x2 C2.part.b.length cp_x2, .slice Aq_x2 C2.part.items.length cq_x2] 58))))
 replace v_aV:=Lib.hid (Nat.lt_of_lt_of_le v_aV.out (Below.size (Below.alloc (Below.refl _ _) (Nat.le_refl _) (.cells #[.string C2.path, .int .i64 C2.part.n, .slice Ap_x2 C2.part.b.length cp_x2, .slice Aq_x2 C2.part.items.length cq_x2] 58))))
 replace v_aC:=Lib.hid (Nat.lt_of_lt_of_le v_aC.out (Below.size (Below.alloc (Below.refl _ _) (Nat.le_refl _) (.cells #[.string C2.path, .int .i64 C2.part.n, .slice Ap_x2 C2.part.b.length cp_x2, .slice Aq_x2 C2.part.items.length cq_x2] 58))))
 replace v_x0:=Lib.hid (Nat.lt_of_lt_of_le v_x0.out (Below.size (Below.alloc (Below.refl _ _) (Nat.le_refl _) (.cells #[.string C2.path, .int .i64 C2.part.n, .slice Ap_x2 C2.part.b.length cp_x2, .slice Aq_x2 C2.part.items.length cq_x2] 58))))
 replace v_x1:=Lib.hid (Nat.lt_of_lt_of_le v_x1.out (Below.size (Below.alloc (Below.refl _ _) (Nat.le_refl _) (.cells #[.string C2.path, .int .i64 C2.part.n, .slice Ap_x2 C2.part.b.length cp_x2, .slice Aq_x2 C2.part.items.length cq_x2] 58))))
 have v_x2:=Lib.hid (show W14.heap.size < (W14.alloc (.cells #[.string C2.path, .int .i64 C2.part.n, .slice Ap_x2 C2.part.b.length cp_x2, .slice Aq_x2 C2.part.items.length cq_x2] 58)).heap.size by simp)
 replace K_aD:=K_aD.alloc (.cells #[.string C2.path, .int .i64 C2.part.n, .slice Ap_x2 C2.part.b.length cp_x2, .slice Aq_x2 C2.part.items.length cq_x2] 58)
 replace K_aV:=K_aV.alloc (.cells #[.string C2.path, .int .i64 C2.part.n, .slice Ap_x2 C2.part.b.length cp_x2, .slice Aq_x2 C2.part.items.length cq_x2] 58)
 replace K_aC:=K_aC.alloc (.cells #[.string C2.path, .int .i64 C2.part.n, .slice Ap_x2 C2.part.b.length cp_x2, .slice Aq_x2 C2.part.items.length cq_x2] 58)
 replace K_x0:=K_x0.alloc (.cells #[.string C2.path, .int .i64 C2.part.n, .slice Ap_x2 C2.part.b.length cp_x2, .slice Aq_x2 C2.part.items.length cq_x2] 58)
 replace K_x1:=K_x1.alloc (.cells #[.string C2.path, .int .i64 C2.part.n, .slice Ap_x2 C2.part.b.length cp_x2, .slice Aq_x2 C2.part.items.length cq_x2] 58)
 replace own_x0:=own_x0.keep (Out.of_below ((Below.refl _ _).alloc (Nat.le_refl _) (.cells #[.string C2.path, .int .i64 C2.part.n, .slice Ap_x2 C2.part.b.length cp_x2, .slice Aq_x2 C2.part.items.length cq_x2] 58)) 0 0) (.inr (Nat.zero_le _))
 replace own_x1:=own_x1.keep (Out.of_below ((Below.refl _ _).alloc (Nat.le_refl _) (.cells #[.string C2.path, .int .i64 C2.part.n, .slice Ap_x2 C2.part.b.length cp_x2, .slice Aq_x2 C2.part.items.length cq_x2] 58)) 0 0) (.inr (Nat.zero_le _))
 replace own_x2:=own_x2.keep (Out.of_below ((Below.refl _ _).alloc (Nat.le_refl _) (.cells #[.string C2.path, .int .i64 C2.part.n, .slice Ap_x2 C2.part.b.length cp_x2, .slice Aq_x2 C2.part.items.length cq_x2] 58)) 0 0) (.inr (Nat.zero_le _))
 have K_x2:K4 (W14.alloc (.cells #[.string C2.path, .int .i64 C2.part.n, .slice Ap_x2 C2.part.b.length cp_x2, .slice Aq_x2 C2.part.items.length cq_x2] 58)) (W14.heap.size) (.string C2.path) (.int .i64 C2.part.n) (.slice Ap_x2 C2.part.b.length cp_x2) (.slice Aq_x2 C2.part.items.length cq_x2):=⟨by simp [go_sem],by simp [go_sem],by simp [go_sem],by simp [go_sem]⟩
 have c_x0_0:=K_x0.c0
 have c_x1_0:=K_x1.c0
 have c_x1_1:=K_x1.c1
 have c_x1_2:=K_x1.c2
 have c_x2_0:=K_x2.c0
 have c_x2_1:=K_x2.c1
 have c_x2_2:=K_x2.c2
 have c_x2_3:=K_x2.c3
 go_wp2_with fail
 refine (implText_law own_x0 ok_0.out own_x1 own_x2 hs1 hs2 HF.out HTab.out b15).mono ?_
 rintro e W16 ⟨rfl,bel16⟩
 have b16:=below_step bel16 b15
 replace u_x0:=Lib.hid (Nat.le_trans u_x0.out bel16.size)
 replace u_x1:=Lib.hid (Nat.le_trans u_x1.out bel16.size)
 replace u_x2:=Lib.hid (Nat.le_trans u_x2.out bel16.size)
 replace v_aD:=Lib.hid (Nat.lt_of_lt_of_le v_aD.out bel16.size)
 replace v_aV:=Lib.hid (Nat.lt_of_lt_of_le v_aV.out bel16.size)
 replace v_aC:=Lib.hid (Nat.lt_of_lt_of_le v_aC.out bel16.size)
 replace v_x0:=Lib.hid (Nat.lt_of_lt_of_le v_x0.out bel16.size)
 replace v_x1:=Lib.hid (Nat.lt_of_lt_of_le v_x1.out bel16.size)
 replace v_x2:=Lib.hid (Nat.lt_of_lt_of_le v_x2.out bel16.size)
 replace own_x0:=own_x0.keep (Out.of_below bel16 0 0) (.inr (Nat.zero_le _))
 replace own_x1:=own_x1.keep (Out.of_below bel16 0 0) (.inr (Nat.zero_le _))
 replace own_x2:=own_x2.keep (Out.of_below bel16 0 0) (.inr (Nat.zero_le _))
 replace c_x0_0:=cell_later bel16 c_x0_0
 replace c_x1_0:=cell_later bel16 c_x1_0
 replace c_x1_1:=cell_later bel16 c_x1_1
 replace c_x1_2:=cell_later bel16 c_x1_2
 replace c_x2_0:=cell_later bel16 c_x2_0
 replace c_x2_1:=cell_later bel16 c_x2_1
 replace c_x2_2:=cell_later bel16 c_x2_2
 replace c_x2_3:=cell_later bel16 c_x2_3
 replace K_aD:=K_aD.later bel16
 replace K_aV:=K_aV.later bel16
 replace K_aC:=K_aC.later bel16
 replace K_x0:=K_x0.later bel16
 replace K_x1:=K_x1.later bel16
 replace K_x2:=K_x2.later bel16
 clear bel16
 clear b15
 clear c_x0_0 c_x1_0 c_x1_1 c_x1_2 c_x2_0 c_x2_1 c_x2_2 c_x2_3
 have c_aD_0:=K_aD.c0
 have c_x0_0:=K_x0.c0
 go_wp2_with fail
 replace own_x0:=own_x0.keep (Out.of_below ((Below.refl W16.heap.size W16).drew) 0 0) (.inr (Nat.zero_le _))
 replace own_x1:=own_x1.keep (Out.of_below ((Below.refl W16.heap.size W16).drew) 0 0) (.inr (Nat.zero_le _))
 replace own_x2:=own_x2.keep (Out.of_below ((Below.refl W16.heap.size W16).drew) 0 0) (.inr (Nat.zero_le _))
 replace K_aD:=K_aD.drew
 replace K_aV:=K_aV.drew
 replace K_aC:=K_aC.drew
 replace K_x0:=K_x0.drew
 replace K_x1:=K_x1.drew
 replace K_x2:=K_x2.drew
 refine wp_region_held_drew (S:=(fun w9=> w9.cell? ⟨w.heap.size,0,none⟩=some (.slice Aa0 l0.length ca0)∧w9.cell? ⟨W10.heap.size,0,none⟩=some (.slice A_x0 D0.length c_x0))) (by kernel_rfl) ?_ (fun hHeld=> ?_)
 ·(try dsimp only);exact ⟨c_aD_0,c_x0_0⟩
 refine rgTake 0 (some 48) hHeld _ ?_;try go_frame
 refine rgTake 1 (some 49) hHeld _ ?_;try go_frame
 refine rgStep 2 (fun K hK=> ?_)
 go_simp
 refine (toD_law hA0 (b16).drew hs0 HD0.out).mono ?_;rintro e W17 ⟨t3,rfl,own_t3,bel17⟩;have o_x0_t3:=u_x0;have o_x1_t3:=u_x1;have o_x2_t3:=u_x2;have ob_aD_t3:=v_aD;have ob_aV_t3:=v_aV;have ob_aC_t3:=v_aC;have ob_x0_t3:=v_x0;have ob_x1_t3:=v_x1;have ob_x2_t3:=v_x2;have pl_t3:=Lib.hid ((b16).drew).size;have b17:=below_step bel17 (b16).drew;replace u_x0:=Lib.hid (Nat.le_trans u_x0.out bel17.size);replace u_x1:=Lib.hid (Nat.le_trans u_x1.out bel17.size);replace u_x2:=Lib.hid (Nat.le_trans u_x2.out bel17.size);replace v_aD:=Lib.hid (Nat.lt_of_lt_of_le v_aD.out bel17.size);replace v_aV:=Lib.hid (Nat.lt_of_lt_of_le v_aV.out bel17.size);replace v_aC:=Lib.hid (Nat.lt_of_lt_of_le v_aC.out bel17.size);replace v_x0:=Lib.hid (Nat.lt_of_lt_of_le v_x0.out bel17.size);replace v_x1:=Lib.hid (Nat.lt_of_lt_of_le v_x1.out bel17.size);replace v_x2:=Lib.hid (Nat.lt_of_lt_of_le v_x2.out bel17.size);have u_t3:=Lib.hid (show W17.heap.size≤W17.heap.size from Nat.le_refl _);replace own_x0:=own_x0.keep (Out.of_below bel17 0 0) (.inr (Nat.zero_le _));replace own_x1:=own_x1.keep (Out.of_below bel17 0 0) (.inr (Nat.zero_le _));replace own_x2:=own_x2.keep (Out.of_below bel17 0 0) (.inr (Nat.zero_le _));replace c_aD_0:=cell_later bel17 c_aD_0;replace c_x0_0:=cell_later bel17 c_x0_0;replace K_aD:=K_aD.later bel17;replace K_aV:=K_aV.later bel17;replace K_aC:=K_aC.later bel17;replace K_x0:=K_x0.later bel17;replace K_x1:=K_x1.later bel17;replace K_x2:=K_x2.later bel17;obtain ⟨A_t3,c_t3,rfl⟩:=own_t3.slice
 (try go_wp2_with fail)
 refine hK.out _ _ ?_ (fun hHeld=> ?_)
 ·(try dsimp only);exact ⟨c_aD_0,c_x0_0⟩
 clear hK K
 try go_frame
 refine rgStep 3 (fun K hK=> ?_)
 go_simp
 refine (eqD_law own_x0 own_t3).mono ?_;rintro e W18 ⟨rfl,bel18⟩;have b18:=below_step bel18 b17;replace u_x0:=Lib.hid (Nat.le_trans u_x0.out bel18.size);replace u_x1:=Lib.hid (Nat.le_trans u_x1.out bel18.size);replace u_x2:=Lib.hid (Nat.le_trans u_x2.out bel18.size);replace u_t3:=Lib.hid (Nat.le_trans u_t3.out bel18.size);replace v_aD:=Lib.hid (Nat.lt_of_lt_of_le v_aD.out bel18.size);replace v_aV:=Lib.hid (Nat.lt_of_lt_of_le v_aV.out bel18.size);replace v_aC:=Lib.hid (Nat.lt_of_lt_of_le v_aC.out bel18.size);replace v_x0:=Lib.hid (Nat.lt_of_lt_of_le v_x0.out bel18.size);replace v_x1:=Lib.hid (Nat.lt_of_lt_of_le v_x1.out bel18.size);replace v_x2:=Lib.hid (Nat.lt_of_lt_of_le v_x2.out bel18.size);replace own_x0:=own_x0.keep (Out.of_below bel18 0 0) (.inr (Nat.zero_le _));replace own_x1:=own_x1.keep (Out.of_below bel18 0 0) (.inr (Nat.zero_le _));replace own_x2:=own_x2.keep (Out.of_below bel18 0 0) (.inr (Nat.zero_le _));replace own_t3:=own_t3.keep (Out.of_below bel18 0 0) (.inr (Nat.zero_le _));replace c_aD_0:=cell_later bel18 c_aD_0;replace c_x0_0:=cell_later bel18 c_x0_0;replace K_aD:=K_aD.later bel18;replace K_aV:=K_aV.later bel18;replace K_aC:=K_aC.later bel18;replace K_x0:=K_x0.later bel18;replace K_x1:=K_x1.later bel18;replace K_x2:=K_x2.later bel18;clear own_t3
 (try go_wp2_with fail)
 refine hK.out _ _ ?_ (fun hHeld=> ?_)
 ·(try dsimp only);exact ⟨c_aD_0,c_x0_0⟩
 clear hK K
 try go_frame
 refine rgTake 4 (some 52) hHeld _ ?_;try go_frame
 refine wpAnyH_done (by kernel_rfl) ?_ _
 clear c_aD_0 c_x0_0
 have c_aV_0:=K_aV.c0
 have c_aV_1:=K_aV.c1
 have c_aV_2:=K_aV.c2
 have c_x1_0:=K_x1.c0
 have c_x1_1:=K_x1.c1
 have c_x1_2:=K_x1.c2
 go_wp2_with fail
 replace own_x0:=own_x0.keep (Out.of_below ((Below.refl W18.heap.size W18).drew) 0 0) (.inr (Nat.zero_le _))
 replace own_x1:=own_x1.keep (Out.of_below ((Below.refl W18.heap.size W18).drew) 0 0) (.inr (Nat.zero_le _))
 replace own_x2:=own_x2.keep (Out.of_below ((Below.refl W18.heap.size W18).drew) 0 0) (.inr (Nat.zero_le _))
 replace K_aD:=K_aD.drew
 replace K_aV:=K_aV.drew
 replace K_aC:=K_aC.drew
 replace K_x0:=K_x0.drew
 replace K_x1:=K_x1.drew
 replace K_x2:=K_x2.drew
 refine wp_region_held_drew (S:=(fun w9=> w9.cell? ⟨w.heap.size+1,0,none⟩=some (.int .i64 nn1)∧w9.cell? ⟨w.heap.size+1,1,none⟩=some (.slice Av1 bb1.length cv1)∧w9.cell? ⟨w.heap.size+1,2,none⟩=some (.slice Aw1 ll1.length cw1)∧w9.cell? ⟨W12.heap.size,0,none⟩=some (.int .i64 X1.n)∧w9.cell? ⟨W12.heap.size,1,none⟩=some (.slice Ap_x1 X1.b.length cp_x1)∧w9.cell? ⟨W12.heap.size,2,none⟩=some (.slice Aq_x1 X1.items.length cq_x1))) (by kernel_rfl) ?_ (fun hHeld=> ?_)
 ·(try dsimp only);exact ⟨c_aV_0,c_aV_1,c_aV_2,c_x1_0,c_x1_1,c_x1_2⟩
 refine rgTake 0 (some 53) hHeld _ ?_;try go_frame
 refine rgTake 1 (some 54) hHeld _ ?_;try go_frame
 refine rgStep 2 (fun K hK=> ?_)
 go_simp
 refine (toV_law HV1.out.1 HV1.out.2 rfl (b18).drew hs1).mono ?_;rintro e W19 ⟨u_t4,rfl,own_t4,bel19⟩;have o_x0_t4:=u_x0;have o_x1_t4:=u_x1;have o_x2_t4:=u_x2;have ob_aD_t4:=v_aD;have ob_aV_t4:=v_aV;have ob_aC_t4:=v_aC;have ob_x0_t4:=v_x0;have ob_x1_t4:=v_x1;have ob_x2_t4:=v_x2;have pl_t4:=Lib.hid ((b18).drew).size;have b19:=below_step bel19 (b18).drew;replace u_x0:=Lib.hid (Nat.le_trans u_x0.out bel19.size);replace u_x1:=Lib.hid (Nat.le_trans u_x1.out bel19.size);replace u_x2:=Lib.hid (Nat.le_trans u_x2.out bel19.size);replace v_aD:=Lib.hid (Nat.lt_of_lt_of_le v_aD.out bel19.size);replace v_aV:=Lib.hid (Nat.lt_of_lt_of_le v_aV.out bel19.size);replace v_aC:=Lib.hid (Nat.lt_of_lt_of_le v_aC.out bel19.size);replace v_x0:=Lib.hid (Nat.lt_of_lt_of_le v_x0.out bel19.size);replace v_x1:=Lib.hid (Nat.lt_of_lt_of_le v_x1.out bel19.size);replace v_x2:=Lib.hid (Nat.lt_of_lt_of_le v_x2.out bel19.size);have u_t4:=Lib.hid (show W19.heap.size≤W19.heap.size from Nat.le_refl _);replace own_x0:=own_x0.keep (Out.of_below bel19 0 0) (.inr (Nat.zero_le _));replace own_x1:=own_x1.keep (Out.of_below bel19 0 0) (.inr (Nat.zero_le _));replace own_x2:=own_x2.keep (Out.of_below bel19 0 0) (.inr (Nat.zero_le _));replace c_aV_0:=cell_later bel19 c_aV_0;replace c_aV_1:=cell_later bel19 c_aV_1;replace c_aV_2:=cell_later bel19 c_aV_2;replace c_x1_0:=cell_later bel19 c_x1_0;replace c_x1_1:=cell_later bel19 c_x1_1;replace c_x1_2:=cell_later bel19 c_x1_2;replace K_aD:=K_aD.later bel19;replace K_aV:=K_aV.later bel19;replace K_aC:=K_aC.later bel19;replace K_x0:=K_x0.later bel19;replace K_x1:=K_x1.later bel19;replace K_x2:=K_x2.later bel19;obtain ⟨Ap_t4,cp_t4,Aq_t4,cq_t4,rfl⟩:=own_t4.agg
 (try go_wp2_with fail)
 refine hK.out _ _ ?_ (fun hHeld=> ?_)
 ·(try dsimp only);exact ⟨c_aV_0,c_aV_1,c_aV_2,c_x1_0,c_x1_1,c_x1_2⟩
 clear hK K
 try go_frame
 refine rgStep 3 (fun K hK=> ?_)
 go_simp
 refine (eqV_law own_x1 own_t4).mono ?_;rintro e W20 ⟨rfl,bel20⟩;have b20:=below_step bel20 b19;replace u_x0:=Lib.hid (Nat.le_trans u_x0.out bel20.size);replace u_x1:=Lib.hid (Nat.le_trans u_x1.out bel20.size);replace u_x2:=Lib.hid (Nat.le_trans u_x2.out bel20.size);replace u_t4:=Lib.hid (Nat.le_trans u_t4.out bel20.size);replace v_aD:=Lib.hid (Nat.lt_of_lt_of_le v_aD.out bel20.size);replace v_aV:=Lib.hid (Nat.lt_of_lt_of_le v_aV.out bel20.size);replace v_aC:=Lib.hid (Nat.lt_of_lt_of_le v_aC.out bel20.size);replace v_x0:=Lib.hid (Nat.lt_of_lt_of_le v_x0.out bel20.size);replace v_x1:=Lib.hid (Nat.lt_of_lt_of_le v_x1.out bel20.size);replace v_x2:=Lib.hid (Nat.lt_of_lt_of_le v_x2.out bel20.size);replace own_x0:=own_x0.keep (Out.of_below bel20 0 0) (.inr (Nat.zero_le _));replace own_x1:=own_x1.keep (Out.of_below bel20 0 0) (.inr (Nat.zero_le _));replace own_x2:=own_x2.keep (Out.of_below bel20 0 0) (.inr (Nat.zero_le _));replace own_t4:=own_t4.keep (Out.of_below bel20 0 0) (.inr (Nat.zero_le _));replace c_aV_0:=cell_later bel20 c_aV_0;replace c_aV_1:=cell_later bel20 c_aV_1;replace c_aV_2:=cell_later bel20 c_aV_2;replace c_x1_0:=cell_later bel20 c_x1_0;replace c_x1_1:=cell_later bel20 c_x1_1;replace c_x1_2:=cell_later bel20 c_x1_2;replace K_aD:=K_aD.later bel20;replace K_aV:=K_aV.later bel20;replace K_aC:=K_aC.later bel20;replace K_x0:=K_x0.later bel20;replace K_x1:=K_x1.later bel20;replace K_x2:=K_x2.later bel20;clear own_t4
 (try go_wp2_with fail)
 refine hK.out _ _ ?_ (fun hHeld=> ?_)
 ·(try dsimp only);exact ⟨c_aV_0,c_aV_1,c_aV_2,c_x1_0,c_x1_1,c_x1_2⟩
 clear hK K
 try go_frame
 refine rgTake 4 (some 57) hHeld _ ?_;try go_frame
 refine wpAnyH_done (by kernel_rfl) ?_ _
 clear c_aV_0 c_aV_1 c_aV_2 c_x1_0 c_x1_1 c_x1_2
 have c_aC_0:=K_aC.c0
 have c_aC_1:=K_aC.c1
 have c_aC_2:=K_aC.c2
 have c_aC_3:=K_aC.c3
 have c_x2_0:=K_x2.c0
 have c_x2_1:=K_x2.c1
 have c_x2_2:=K_x2.c2
 have c_x2_3:=K_x2.c3
 go_wp2_with fail
 replace own_x0:=own_x0.keep (Out.of_below ((Below.refl W20.heap.size W20).drew) 0 0) (.inr (Nat.zero_le _))
 replace own_x1:=own_x1.keep (Out.of_below ((Below.refl W20.heap.size W20).drew) 0 0) (.inr (Nat.zero_le _))
 replace own_x2:=own_x2.keep (Out.of_below ((Below.refl W20.heap.size W20).drew) 0 0) (.inr (Nat.zero_le _))
 replace K_aD:=K_aD.drew
 replace K_aV:=K_aV.drew
 replace K_aC:=K_aC.drew
 replace K_x0:=K_x0.drew
 replace K_x1:=K_x1.drew
 replace K_x2:=K_x2.drew
 refine wp_region_held_drew (S:=(fun w9=> w9.cell? ⟨w.heap.size+1+1,0,none⟩=some (.string pp2)∧w9.cell? ⟨w.heap.size+1+1,1,none⟩=some (.int .i64 nn2)∧w9.cell? ⟨w.heap.size+1+1,2,none⟩=some (.slice Av2 bb2.length cv2)∧w9.cell? ⟨w.heap.size+1+1,3,none⟩=some (.slice Aw2 ll2.length cw2)∧w9.cell? ⟨W14.heap.size,0,none⟩=some (.string C2.path)∧w9.cell? ⟨W14.heap.size,1,none⟩=some (.int .i64 C2.part.n)∧w9.cell? ⟨W14.heap.size,2,none⟩=some (.slice Ap_x2 C2.part.b.length cp_x2)∧w9.cell? ⟨W14.heap.size,3,none⟩=some (.slice Aq_x2 C2.part.items.length cq_x2))) (by kernel_rfl) ?_ (fun hHeld=> ?_)
 ·(try dsimp only);exact ⟨c_aC_0,c_aC_1,c_aC_2,c_aC_3,c_x2_0,c_x2_1,c_x2_2,c_x2_3⟩
 refine rgTake 0 (some 58) hHeld _ ?_;try go_frame
 refine rgTake 1 (some 59) hHeld _ ?_;try go_frame
 refine rgStep 2 (fun K hK=> ?_)
 go_simp
 refine (toC1_law HV2.out.1 HV2.out.2.1 rfl (b20).drew hs2).mono ?_;rintro e W21 ⟨u_t5,rfl,own_t5,bel21⟩;have o_x0_t5:=u_x0;have o_x1_t5:=u_x1;have o_x2_t5:=u_x2;have ob_aD_t5:=v_aD;have ob_aV_t5:=v_aV;have ob_aC_t5:=v_aC;have ob_x0_t5:=v_x0;have ob_x1_t5:=v_x1;have ob_x2_t5:=v_x2;have pl_t5:=Lib.hid ((b20).drew).size;have b21:=below_step bel21 (b20).drew;replace u_x0:=Lib.hid (Nat.le_trans u_x0.out bel21.size);replace u_x1:=Lib.hid (Nat.le_trans u_x1.out bel21.size);replace u_x2:=Lib.hid (Nat.le_trans u_x2.out bel21.size);replace v_aD:=Lib.hid (Nat.lt_of_lt_of_le v_aD.out bel21.size);replace v_aV:=Lib.hid (Nat.lt_of_lt_of_le v_aV.out bel21.size);replace v_aC:=Lib.hid (Nat.lt_of_lt_of_le v_aC.out bel21.size);replace v_x0:=Lib.hid (Nat.lt_of_lt_of_le v_x0.out bel21.size);replace v_x1:=Lib.hid (Nat.lt_of_lt_of_le v_x1.out bel21.size);replace v_x2:=Lib.hid (Nat.lt_of_lt_of_le v_x2.out bel21.size);have u_t5:=Lib.hid (show W21.heap.size≤W21.heap.size from Nat.le_refl _);replace own_x0:=own_x0.keep (Out.of_below bel21 0 0) (.inr (Nat.zero_le _));replace own_x1:=own_x1.keep (Out.of_below bel21 0 0) (.inr (Nat.zero_le _));replace own_x2:=own_x2.keep (Out.of_below bel21 0 0) (.inr (Nat.zero_le _));replace c_aC_0:=cell_later bel21 c_aC_0;replace c_aC_1:=cell_later bel21 c_aC_1;replace c_aC_2:=cell_later bel21 c_aC_2;replace c_aC_3:=cell_later bel21 c_aC_3;replace c_x2_0:=cell_later bel21 c_x2_0;replace c_x2_1:=cell_later bel21 c_x2_1;replace c_x2_2:=cell_later bel21 c_x2_2;replace c_x2_3:=cell_later bel21 c_x2_3;replace K_aD:=K_aD.later bel21;replace K_aV:=K_aV.later bel21;replace K_aC:=K_aC.later bel21;replace K_x0:=K_x0.later bel21;replace K_x1:=K_x1.later bel21;replace K_x2:=K_x2.later bel21;obtain ⟨Ap_t5,cp_t5,Aq_t5,cq_t5,rfl⟩:=own_t5.agg
 (try go_wp2_with fail)
 refine hK.out _ _ ?_ (fun hHeld=> ?_)
 ·(try dsimp only);exact ⟨c_aC_0,c_aC_1,c_aC_2,c_aC_3,c_x2_0,c_x2_1,c_x2_2,c_x2_3⟩
 clear hK K
 try go_frame
 refine rgStep 3 (fun K hK=> ?_)
 go_simp
 refine (eqC1_law own_x2 own_t5).mono ?_;rintro e W22 ⟨rfl,bel22⟩;have b22:=below_step bel22 b21;replace u_x0:=Lib.hid (Nat.le_trans u_x0.out bel22.size);replace u_x1:=Lib.hid (Nat.le_trans u_x1.out bel22.size);replace u_x2:=Lib.hid (Nat.le_trans u_x2.out bel22.size);replace u_t5:=Lib.hid (Nat.le_trans u_t5.out bel22.size);replace v_aD:=Lib.hid (Nat.lt_of_lt_of_le v_aD.out bel22.size);replace v_aV:=Lib.hid (Nat.lt_of_lt_of_le v_aV.out bel22.size);replace v_aC:=Lib.hid (Nat.lt_of_lt_of_le v_aC.out bel22.size);replace v_x0:=Lib.hid (Nat.lt_of_lt_of_le v_x0.out bel22.size);replace v_x1:=Lib.hid (Nat.lt_of_lt_of_le v_x1.out bel22.size);replace v_x2:=Lib.hid (Nat.lt_of_lt_of_le v_x2.out bel22.size);replace own_x0:=own_x0.keep (Out.of_below bel22 0 0) (.inr (Nat.zero_le _));replace own_x1:=own_x1.keep (Out.of_below bel22 0 0) (.inr (Nat.zero_le _));replace own_x2:=own_x2.keep (Out.of_below bel22 0 0) (.inr (Nat.zero_le _));replace own_t5:=own_t5.keep (Out.of_below bel22 0 0) (.inr (Nat.zero_le _));replace c_aC_0:=cell_later bel22 c_aC_0;replace c_aC_1:=cell_later bel22 c_aC_1;replace c_aC_2:=cell_later bel22 c_aC_2;replace c_aC_3:=cell_later bel22 c_aC_3;replace c_x2_0:=cell_later bel22 c_x2_0;replace c_x2_1:=cell_later bel22 c_x2_1;replace c_x2_2:=cell_later bel22 c_x2_2;replace c_x2_3:=cell_later bel22 c_x2_3;replace K_aD:=K_aD.later bel22;replace K_aV:=K_aV.later bel22;replace K_aC:=K_aC.later bel22;replace K_x0:=K_x0.later bel22;replace K_x1:=K_x1.later bel22;replace K_x2:=K_x2.later bel22;clear own_t5
 (try go_wp2_with fail)
 refine hK.out _ _ ?_ (fun hHeld=> ?_)
 ·(try dsimp only);exact ⟨c_aC_0,c_aC_1,c_aC_2,c_aC_3,c_x2_0,c_x2_1,c_x2_2,c_x2_3⟩
 clear hK K
 try go_frame
 refine rgTake 4 (some 62) hHeld _ ?_;try go_frame
 refine wpAnyH_done (by kernel_rfl) ?_ _
 clear c_aC_0 c_aC_1 c_aC_2 c_aC_3 c_x2_0 c_x2_1 c_x2_2 c_x2_3
 have HB:=Lib.hid b22
 clear own_x0 own_x1 own_x2 hA0 ok0
 go_wp2
 go_ret
 exact ⟨rfl,HB.out⟩
end Go.Proofs.YtipfacnmobineaaGreatDoor.FnExactChangeText
