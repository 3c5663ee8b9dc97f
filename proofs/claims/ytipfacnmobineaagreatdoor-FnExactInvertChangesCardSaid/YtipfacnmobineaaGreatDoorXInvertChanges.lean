/- The walk of the law FnExactInvertChanges. No condition but those of its arguments. -/
import Derived.Test.YtipfacnmobineaaGreatDoorXInvL
import Derived.Test.YtipfacnmobineaaGreatDoorGf
import Derived.Test.YtipfacnmobineaaGreatDoorGa
import Derived.Test.YtipfacnmobineaaGreatDoorGv
import Derived.WalkSpells
import Derived.WalkLawsBesides
import Derived.Deep.RegionHeld3
set_option linter.unusedSimpArgs false
set_option linter.unusedVariables false
namespace Go.Proofs.YtipfacnmobineaaGreatDoor.FnExactInvertChanges
open Go.RowKit
set_option maxHeartbeats 16000000 in
set_option maxRecDepth 100000 in
theorem walk (v0:Value) (l0:List RM) (e1:VM) (v2:Value) (l2:List CM) (w:World) (hA0:SlD w w.heap.size v0 l0) (ok0:∀r∈l0,r.d.ok) (hA1:e1.rd w w.heap.size) (ok1:e1.d.ok) (hA2:SlC w w.heap.size v2 l2) (ok2:∀r∈l2,r.d.ok) (htab:Tab w):
  Calls Tryz.prog 4 #[.agg #[v0],vmV e1,v2] w fun e w'=> e= .returned (.bool true)∧Below w.heap.size w w':=by
 obtain ⟨Aa0,ca0,rfl⟩:∃A c,v0= .slice A l0.length c:=by obtain ⟨A,c,h, -⟩:=hA0.open_;exact ⟨A,c,h⟩
 obtain ⟨D0,hD0⟩:∃D,l0.map RM.d=D:=⟨_,rfl⟩
 have HD0:=Lib.hid hD0
 clear hD0
 obtain ⟨nn1,bb1,vb1,vi1,ll1⟩:=e1
 obtain ⟨Av1,cv1,ev1, -⟩:=hA1.bytes.open_
 obtain ⟨Aw1,cw1,ew1, -⟩:=hA1.its.open_
 simp only [VM.vb_mk,VM.b_mk,VM.vi_mk,VM.items_mk] at ev1 ew1
 subst ev1 ew1
 obtain ⟨X1,hX1⟩:∃X,(VM.mk nn1 bb1 (.slice Av1 bb1.length cv1) (.slice Aw1 ll1.length cw1) ll1).d=X:=⟨_,rfl⟩
 have HV1:=Lib.hid (And.intro hA1 hX1)
 clear hA1 hX1 ok1
 simp only [vmV,VM.n_mk,VM.vb_mk,VM.vi_mk]
 obtain ⟨Ac2,cc2,rfl⟩:∃A c,v2= .slice A l2.length c:=by obtain ⟨A,c,h, -⟩:=hA2.open_;exact ⟨A,c,h⟩
 obtain ⟨C2,hC2⟩:∃C,l2.map CM.d=C:=⟨_,rfl⟩
 have HC2:=Lib.hid hC2
 clear hC2
 have HTab:=Lib.hid htab
 clear htab
 obtain ⟨FX,hF⟩:∃a,invV D0 C2 X1 []=a:=⟨_,rfl⟩
 have hFs:=inv_size hF
 have HF:=Lib.hid (And.intro hF True.intro)
 clear hF
 go_enter Tryz.func4,Tryz.ntmps4
 have b0:Below w.heap.size w (w.alloc (.cells #[.slice Aa0 l0.length ca0] 24)):=(Below.refl w.heap.size w).alloc ((Below.refl w.heap.size w)).size _
 have v_aD:=Lib.hid (show w.heap.size < (w.alloc (.cells #[.slice Aa0 l0.length ca0] 24)).heap.size by simp)
 have K_aD:K1 (w.alloc (.cells #[.slice Aa0 l0.length ca0] 24)) (w.heap.size) (.slice Aa0 l0.length ca0):=⟨by simp [go_sem]⟩
 have b1:Below w.heap.size w ((w.alloc (.cells #[.slice Aa0 l0.length ca0] 24)).alloc (.cells #[.int .i64 nn1, .slice Av1 bb1.length cv1, .slice Aw1 ll1.length cw1] 28)):=b0.alloc (b0).size _
 replace v_aD:=Lib.hid (Nat.lt_of_lt_of_le v_aD.out (Below.size (Below.alloc (Below.refl _ _) (Nat.le_refl _) (.cells #[.int .i64 nn1, .slice Av1 bb1.length cv1, .slice Aw1 ll1.length cw1] 28))))
 have v_aV:=Lib.hid (show w.heap.size+1 < ((w.alloc (.cells #[.slice Aa0 l0.length ca0] 24)).alloc (.cells #[.int .i64 nn1, .slice Av1 bb1.length cv1, .slice Aw1 ll1.length cw1] 28)).heap.size by simp)
 replace K_aD:=K_aD.alloc (.cells #[.int .i64 nn1, .slice Av1 bb1.length cv1, .slice Aw1 ll1.length cw1] 28)
 have K_aV:K3 ((w.alloc (.cells #[.slice Aa0 l0.length ca0] 24)).alloc (.cells #[.int .i64 nn1, .slice Av1 bb1.length cv1, .slice Aw1 ll1.length cw1] 28)) (w.heap.size+1) (.int .i64 nn1) (.slice Av1 bb1.length cv1) (.slice Aw1 ll1.length cw1):=⟨by simp [go_sem],by simp [go_sem],by simp [go_sem]⟩
 have c_aD_0:=K_aD.c0
 go_wp2_with fail
 refine (szD_law hA0 b1 ok0 (by omega) (by omega)).mono ?_
 rintro e W2 ⟨z2,rfl,bel2,hr2⟩
 have b2:=below_step bel2 b1
 replace v_aD:=Lib.hid (Nat.lt_of_lt_of_le v_aD.out bel2.size)
 replace v_aV:=Lib.hid (Nat.lt_of_lt_of_le v_aV.out bel2.size)
 replace c_aD_0:=cell_later bel2 c_aD_0
 replace K_aD:=K_aD.later bel2
 replace K_aV:=K_aV.later bel2
 clear bel2
 clear b1
 rcases hr2 with rfl|⟨q2,y2,hs0⟩
 ·have HB:=Lib.hid b2
  clear hA0 ok0 hA2 ok2
  go_wp2
  go_ret
  exact ⟨rfl,HB.out⟩
 have ok_0:=Lib.hid (okD_of ok0 hs0 HD0.out)
 clear c_aD_0
 have c_aV_0:=K_aV.c0
 have c_aV_1:=K_aV.c1
 have c_aV_2:=K_aV.c2
 go_wp2_with fail
 refine (szV_law HV1.out.1 HV1.out.2 rfl b2 q2 (by omega)).mono ?_
 rintro e W3 ⟨z3,rfl,bel3,hr3⟩
 have b3:=below_step bel3 b2
 replace v_aD:=Lib.hid (Nat.lt_of_lt_of_le v_aD.out bel3.size)
 replace v_aV:=Lib.hid (Nat.lt_of_lt_of_le v_aV.out bel3.size)
 replace c_aV_0:=cell_later bel3 c_aV_0
 replace c_aV_1:=cell_later bel3 c_aV_1
 replace c_aV_2:=cell_later bel3 c_aV_2
 replace K_aD:=K_aD.later bel3
 replace K_aV:=K_aV.later bel3
 clear bel3
 clear b2
 rcases hr3 with rfl|⟨q3,y3,hs1⟩
 ·have HB:=Lib.hid b3
  clear hA0 ok0 hA2 ok2
  go_wp2
  go_ret
  exact ⟨rfl,HB.out⟩
 clear c_aV_0 c_aV_1 c_aV_2
 go_wp2_with fail
 refine (szC_law hA2 ok2 HC2.out b3 q3 (by omega)).mono ?_
 rintro e W4 ⟨z4,rfl,bel4,hr4⟩
 have b4:=below_step bel4 b3
 replace v_aD:=Lib.hid (Nat.lt_of_lt_of_le v_aD.out bel4.size)
 replace v_aV:=Lib.hid (Nat.lt_of_lt_of_le v_aV.out bel4.size)
 replace K_aD:=K_aD.later bel4
 replace K_aV:=K_aV.later bel4
 clear bel4
 clear b3
 rcases hr4 with rfl|⟨q4,y4,hs2⟩
 ·have HB:=Lib.hid b4
  clear hA0 ok0 hA2 ok2
  go_wp2
  go_ret
  exact ⟨rfl,HB.out⟩
 have c_aD_0:=K_aD.c0
 have c_aV_0:=K_aV.c0
 have c_aV_1:=K_aV.c1
 have c_aV_2:=K_aV.c2
 go_wp2_with fail
 replace K_aD:=K_aD.drew
 replace K_aV:=K_aV.drew
 refine wp_region_held_drew (S:=(fun w9=> w9.cell? ⟨w.heap.size,0,none⟩=some (.slice Aa0 l0.length ca0)∧w9.cell? ⟨w.heap.size+1,0,none⟩=some (.int .i64 nn1)∧w9.cell? ⟨w.heap.size+1,1,none⟩=some (.slice Av1 bb1.length cv1)∧w9.cell? ⟨w.heap.size+1,2,none⟩=some (.slice Aw1 ll1.length cw1))) (by kernel_rfl) ?_ (fun hHeld=> ?_)
 ·(try dsimp only);exact ⟨c_aD_0,c_aV_0,c_aV_1,c_aV_2⟩
 refine rgTake 0 (some 32) hHeld _ ?_;try go_frame
 refine rgTake 2 (some 34) hHeld _ ?_;try go_frame
 refine rgTake 4 (some 36) hHeld _ ?_;try go_frame
 refine rgStep 1 (fun K hK=> ?_)
 go_simp
 refine (toD_law hA0 (b4).drew hs0 HD0.out).mono ?_;rintro e W5 ⟨t0,rfl,own_t0,bel5⟩;have ob_aD_t0:=v_aD;have ob_aV_t0:=v_aV;have pl_t0:=Lib.hid ((b4).drew).size;have b5:=below_step bel5 (b4).drew;replace v_aD:=Lib.hid (Nat.lt_of_lt_of_le v_aD.out bel5.size);replace v_aV:=Lib.hid (Nat.lt_of_lt_of_le v_aV.out bel5.size);have u_t0:=Lib.hid (show W5.heap.size≤W5.heap.size from Nat.le_refl _);replace c_aD_0:=cell_later bel5 c_aD_0;replace c_aV_0:=cell_later bel5 c_aV_0;replace c_aV_1:=cell_later bel5 c_aV_1;replace c_aV_2:=cell_later bel5 c_aV_2;replace K_aD:=K_aD.later bel5;replace K_aV:=K_aV.later bel5;obtain ⟨A_t0,c_t0,rfl⟩:=own_t0.slice
 (try go_wp2_with fail)
 refine hK.out _ _ ?_ (fun hHeld=> ?_)
 ·(try dsimp only);exact ⟨c_aD_0,c_aV_0,c_aV_1,c_aV_2⟩
 clear hK K
 try go_frame
 refine rgStep 3 (fun K hK=> ?_)
 go_simp
 refine (toV_law HV1.out.1 HV1.out.2 rfl b5 hs1).mono ?_;rintro e W6 ⟨u_t1,rfl,own_t1,bel6⟩;have o_t0_t1:=u_t0;have ob_aD_t1:=v_aD;have ob_aV_t1:=v_aV;have pl_t1:=Lib.hid (b5).size;have b6:=below_step bel6 b5;replace u_t0:=Lib.hid (Nat.le_trans u_t0.out bel6.size);replace v_aD:=Lib.hid (Nat.lt_of_lt_of_le v_aD.out bel6.size);replace v_aV:=Lib.hid (Nat.lt_of_lt_of_le v_aV.out bel6.size);have u_t1:=Lib.hid (show W6.heap.size≤W6.heap.size from Nat.le_refl _);replace own_t0:=own_t0.keep (Out.of_below bel6 0 0) (.inr (Nat.zero_le _));replace c_aD_0:=cell_later bel6 c_aD_0;replace c_aV_0:=cell_later bel6 c_aV_0;replace c_aV_1:=cell_later bel6 c_aV_1;replace c_aV_2:=cell_later bel6 c_aV_2;replace K_aD:=K_aD.later bel6;replace K_aV:=K_aV.later bel6;obtain ⟨Ap_t1,cp_t1,Aq_t1,cq_t1,rfl⟩:=own_t1.agg
 (try go_wp2_with fail)
 refine hK.out _ _ ?_ (fun hHeld=> ?_)
 ·(try dsimp only);exact ⟨c_aD_0,c_aV_0,c_aV_1,c_aV_2⟩
 clear hK K
 try go_frame
 refine rgStep 5 (fun K hK=> ?_)
 go_simp
 refine (toC_law hA2 HC2.out b6 hs2).mono ?_;rintro e W7 ⟨t2,rfl,own_t2,bel7⟩;have o_t0_t2:=u_t0;have o_t1_t2:=u_t1;have ob_aD_t2:=v_aD;have ob_aV_t2:=v_aV;have pl_t2:=Lib.hid (b6).size;have b7:=below_step bel7 b6;replace u_t0:=Lib.hid (Nat.le_trans u_t0.out bel7.size);replace u_t1:=Lib.hid (Nat.le_trans u_t1.out bel7.size);replace v_aD:=Lib.hid (Nat.lt_of_lt_of_le v_aD.out bel7.size);replace v_aV:=Lib.hid (Nat.lt_of_lt_of_le v_aV.out bel7.size);have u_t2:=Lib.hid (show W7.heap.size≤W7.heap.size from Nat.le_refl _);replace own_t0:=own_t0.keep (Out.of_below bel7 0 0) (.inr (Nat.zero_le _));replace own_t1:=own_t1.keep (Out.of_below bel7 0 0) (.inr (Nat.zero_le _));replace c_aD_0:=cell_later bel7 c_aD_0;replace c_aV_0:=cell_later bel7 c_aV_0;replace c_aV_1:=cell_later bel7 c_aV_1;replace c_aV_2:=cell_later bel7 c_aV_2;replace K_aD:=K_aD.later bel7;replace K_aV:=K_aV.later bel7;obtain ⟨A_t2,c_t2,rfl⟩:=own_t2.slice
 (try go_wp2_with fail)
 refine hK.out _ _ ?_ (fun hHeld=> ?_)
 ·(try dsimp only);exact ⟨c_aD_0,c_aV_0,c_aV_1,c_aV_2⟩
 clear hK K
 try go_frame
 refine rgStep 6 (fun K hK=> ?_)
 go_simp
 refine (specInvert_law own_t0 ok_0.out own_t1 own_t2 hs1 hs2 HF.out.1).mono ?_;rintro e W8 ⟨w0,rfl,own_w0,bel8⟩;have o_t0_w0:=u_t0;have o_t1_w0:=u_t1;have o_t2_w0:=u_t2;have ob_aD_w0:=v_aD;have ob_aV_w0:=v_aV;have pl_w0:=Lib.hid (b7).size;have b8:=below_step bel8 b7;replace u_t0:=Lib.hid (Nat.le_trans u_t0.out bel8.size);replace u_t1:=Lib.hid (Nat.le_trans u_t1.out bel8.size);replace u_t2:=Lib.hid (Nat.le_trans u_t2.out bel8.size);replace v_aD:=Lib.hid (Nat.lt_of_lt_of_le v_aD.out bel8.size);replace v_aV:=Lib.hid (Nat.lt_of_lt_of_le v_aV.out bel8.size);have u_w0:=Lib.hid (show W8.heap.size≤W8.heap.size from Nat.le_refl _);replace own_t0:=own_t0.keep (Out.of_below bel8 0 0) (.inr (Nat.zero_le _));replace own_t1:=own_t1.keep (Out.of_below bel8 0 0) (.inr (Nat.zero_le _));replace own_t2:=own_t2.keep (Out.of_below bel8 0 0) (.inr (Nat.zero_le _));replace c_aD_0:=cell_later bel8 c_aD_0;replace c_aV_0:=cell_later bel8 c_aV_0;replace c_aV_1:=cell_later bel8 c_aV_1;replace c_aV_2:=cell_later bel8 c_aV_2;replace K_aD:=K_aD.later bel8;replace K_aV:=K_aV.later bel8;obtain ⟨A_w0,c_w0,rfl⟩:=own_w0.slice;clear own_t0;clear own_t1;clear own_t2
 (try go_wp2_with fail)
 refine hK.out _ _ ?_ (fun hHeld=> ?_)
 ·(try dsimp only);exact ⟨c_aD_0,c_aV_0,c_aV_1,c_aV_2⟩
 clear hK K
 try go_frame
 refine rgTake 7 (some 8) hHeld _ ?_;try go_frame
 refine wpAnyH_done (by kernel_rfl) ?_ _
 clear c_aD_0 c_aV_0 c_aV_1 c_aV_2
 have c_aD_0:=K_aD.c0
 go_wp2_with fail
 refine (toD_law hA0 b8 hs0 HD0.out).mono ?_
 rintro e W9 ⟨x0,rfl,own_x0,bel9⟩
 have o_w0_x0:=u_w0
 have ob_aD_x0:=v_aD
 have ob_aV_x0:=v_aV
 have pl_x0:=Lib.hid (b8).size
 have b9:=below_step bel9 b8
 replace u_w0:=Lib.hid (Nat.le_trans u_w0.out bel9.size)
 replace v_aD:=Lib.hid (Nat.lt_of_lt_of_le v_aD.out bel9.size)
 replace v_aV:=Lib.hid (Nat.lt_of_lt_of_le v_aV.out bel9.size)
 have u_x0:=Lib.hid (show W9.heap.size≤W9.heap.size from Nat.le_refl _)
 replace own_w0:=own_w0.keep (Out.of_below bel9 0 0) (.inr (Nat.zero_le _))
 replace c_aD_0:=cell_later bel9 c_aD_0
 replace K_aD:=K_aD.later bel9
 replace K_aV:=K_aV.later bel9
 clear bel9
 clear b8
 obtain ⟨A_x0,c_x0,rfl⟩:=own_x0.slice
 clear c_aD_0
 have b10:Below w.heap.size w (W9.alloc (.cells #[.slice A_x0 D0.length c_x0] 40)):=b9.alloc (b9).size _
 have or_w0_x0:=u_w0
 replace u_w0:=Lib.hid (Nat.le_trans u_w0.out (Below.size (Below.alloc (Below.refl _ _) (Nat.le_refl _) (.cells #[.slice A_x0 D0.length c_x0] 40))))
 have or_x0_x0:=u_x0
 replace u_x0:=Lib.hid (Nat.le_trans u_x0.out (Below.size (Below.alloc (Below.refl _ _) (Nat.le_refl _) (.cells #[.slice A_x0 D0.length c_x0] 40))))
 replace v_aD:=Lib.hid (Nat.lt_of_lt_of_le v_aD.out (Below.size (Below.alloc (Below.refl _ _) (Nat.le_refl _) (.cells #[.slice A_x0 D0.length c_x0] 40))))
 replace v_aV:=Lib.hid (Nat.lt_of_lt_of_le v_aV.out (Below.size (Below.alloc (Below.refl _ _) (Nat.le_refl _) (.cells #[.slice A_x0 D0.length c_x0] 40))))
 have v_x0:=Lib.hid (show W9.heap.size < (W9.alloc (.cells #[.slice A_x0 D0.length c_x0] 40)).heap.size by simp)
 replace K_aD:=K_aD.alloc (.cells #[.slice A_x0 D0.length c_x0] 40)
 replace K_aV:=K_aV.alloc (.cells #[.slice A_x0 D0.length c_x0] 40)
 replace own_w0:=own_w0.keep (Out.of_below ((Below.refl _ _).alloc (Nat.le_refl _) (.cells #[.slice A_x0 D0.length c_x0] 40)) 0 0) (.inr (Nat.zero_le _))
 replace own_x0:=own_x0.keep (Out.of_below ((Below.refl _ _).alloc (Nat.le_refl _) (.cells #[.slice A_x0 D0.length c_x0] 40)) 0 0) (.inr (Nat.zero_le _))
 have K_x0:K1 (W9.alloc (.cells #[.slice A_x0 D0.length c_x0] 40)) (W9.heap.size) (.slice A_x0 D0.length c_x0):=⟨by simp [go_sem]⟩
 have c_aV_0:=K_aV.c0
 have c_aV_1:=K_aV.c1
 have c_aV_2:=K_aV.c2
 go_wp2_with fail
 refine (toV_law HV1.out.1 HV1.out.2 rfl b10 hs1).mono ?_
 rintro e W11 ⟨u_x1,rfl,own_x1,bel11⟩
 have o_w0_x1:=u_w0
 have o_x0_x1:=u_x0
 have ob_aD_x1:=v_aD
 have ob_aV_x1:=v_aV
 have ob_x0_x1:=v_x0
 have pl_x1:=Lib.hid (b10).size
 have b11:=below_step bel11 b10
 replace u_w0:=Lib.hid (Nat.le_trans u_w0.out bel11.size)
 replace u_x0:=Lib.hid (Nat.le_trans u_x0.out bel11.size)
 replace v_aD:=Lib.hid (Nat.lt_of_lt_of_le v_aD.out bel11.size)
 replace v_aV:=Lib.hid (Nat.lt_of_lt_of_le v_aV.out bel11.size)
 replace v_x0:=Lib.hid (Nat.lt_of_lt_of_le v_x0.out bel11.size)
 have u_x1:=Lib.hid (show W11.heap.size≤W11.heap.size from Nat.le_refl _)
 replace own_w0:=own_w0.keep (Out.of_below bel11 0 0) (.inr (Nat.zero_le _))
 replace own_x0:=own_x0.keep (Out.of_below bel11 0 0) (.inr (Nat.zero_le _))
 replace c_aV_0:=cell_later bel11 c_aV_0
 replace c_aV_1:=cell_later bel11 c_aV_1
 replace c_aV_2:=cell_later bel11 c_aV_2
 replace K_aD:=K_aD.later bel11
 replace K_aV:=K_aV.later bel11
 replace K_x0:=K_x0.later bel11
 clear bel11
 clear b10
 obtain ⟨Ap_x1,cp_x1,Aq_x1,cq_x1,rfl⟩:=own_x1.agg
 clear c_aV_0 c_aV_1 c_aV_2
 have b12:Below w.heap.size w (W11.alloc (.cells #[.int .i64 X1.n, .slice Ap_x1 X1.b.length cp_x1, .slice Aq_x1 X1.items.length cq_x1] 35)):=b11.alloc (b11).size _
 have or_w0_x1:=u_w0
 replace u_w0:=Lib.hid (Nat.le_trans u_w0.out (Below.size (Below.alloc (Below.refl _ _) (Nat.le_refl _) (.cells #[.int .i64 X1.n, .slice Ap_x1 X1.b.length cp_x1, .slice Aq_x1 X1.items.length cq_x1] 35))))
 have or_x0_x1:=u_x0
 replace u_x0:=Lib.hid (Nat.le_trans u_x0.out (Below.size (Below.alloc (Below.refl _ _) (Nat.le_refl _) (.cells #[.int .i64 X1.n, .slice Ap_x1 X1.b.length cp_x1, .slice Aq_x1 X1.items.length cq_x1] 35))))
 have or_x1_x1:=u_x1
 replace u_x1:=Lib.hid (Nat.le_trans u_x1.out (Below.size (Below.alloc (Below.refl _ _) (Nat.le_refl _) (.cells #[.int .i64 X1.n, .slice Ap_x1 X1.b.length cp_x1, .slice Aq_x1 X1.items.length cq_x1] 35))))
 replace v_aD:=Lib.hid (Nat.lt_of_lt_of_le v_aD.out (Below.size (Below.alloc (Below.refl _ _) (Nat.le_refl _) (.cells #[.int .i64 X1.n, .slice Ap_x1 X1.b.length cp_x1, .slice Aq_x1 X1.items.length cq_x1] 35))))
 replace v_aV:=Lib.hid (Nat.lt_of_lt_of_le v_aV.out (Below.size (Below.alloc (Below.refl _ _) (Nat.le_refl _) (.cells #[.int .i64 X1.n, .slice Ap_x1 X1.b.length cp_x1, .slice Aq_x1 X1.items.length cq_x1] 35))))
 replace v_x0:=Lib.hid (Nat.lt_of_lt_of_le v_x0.out (Below.size (Below.alloc (Below.refl _ _) (Nat.le_refl _) (.cells #[.int .i64 X1.n, .slice Ap_x1 X1.b.length cp_x1, .slice Aq_x1 X1.items.length cq_x1] 35))))
 have v_x1:=Lib.hid (show W11.heap.size < (W11.alloc (.cells #[.int .i64 X1.n, .slice Ap_x1 X1.b.length cp_x1, .slice Aq_x1 X1.items.length cq_x1] 35)).heap.size by simp)
 replace K_aD:=K_aD.alloc (.cells #[.int .i64 X1.n, .slice Ap_x1 X1.b.length cp_x1, .slice Aq_x1 X1.items.length cq_x1] 35)
 replace K_aV:=K_aV.alloc (.cells #[.int .i64 X1.n, .slice Ap_x1 X1.b.length cp_x1, .slice Aq_x1 X1.items.length cq_x1] 35)
 replace K_x0:=K_x0.alloc (.cells #[.int .i64 X1.n, .slice Ap_x1 X1.b.length cp_x1, .slice Aq_x1 X1.items.length cq_x1] 35)
 replace own_w0:=own_w0.keep (Out.of_below ((Below.refl _ _).alloc (Nat.le_refl _) (.cells #[.int .i64 X1.n, .slice Ap_x1 X1.b.length cp_x1, .slice Aq_x1 X1.items.length cq_x1] 35)) 0 0) (.inr (Nat.zero_le _))
 replace own_x0:=own_x0.keep (Out.of_below ((Below.refl _ _).alloc (Nat.le_refl _) (.cells #[.int .i64 X1.n, .slice Ap_x1 X1.b.length cp_x1, .slice Aq_x1 X1.items.length cq_x1] 35)) 0 0) (.inr (Nat.zero_le _))
 replace own_x1:=own_x1.keep (Out.of_below ((Below.refl _ _).alloc (Nat.le_refl _) (.cells #[.int .i64 X1.n, .slice Ap_x1 X1.b.length cp_x1, .slice Aq_x1 X1.items.length cq_x1] 35)) 0 0) (.inr (Nat.zero_le _))
 have K_x1:K3 (W11.alloc (.cells #[.int .i64 X1.n, .slice Ap_x1 X1.b.length cp_x1, .slice Aq_x1 X1.items.length cq_x1] 35)) (W11.heap.size) (.int .i64 X1.n) (.slice Ap_x1 X1.b.length cp_x1) (.slice Aq_x1 X1.items.length cq_x1):=⟨by simp [go_sem],by simp [go_sem],by simp [go_sem]⟩
 go_wp2_with fail
 refine (toC_law hA2 HC2.out b12 hs2).mono ?_
 rintro e W13 ⟨x2,rfl,own_x2,bel13⟩
 have o_w0_x2:=u_w0
 have o_x0_x2:=u_x0
 have o_x1_x2:=u_x1
 have ob_aD_x2:=v_aD
 have ob_aV_x2:=v_aV
 have ob_x0_x2:=v_x0
 have ob_x1_x2:=v_x1
 have pl_x2:=Lib.hid (b12).size
 have b13:=below_step bel13 b12
 replace u_w0:=Lib.hid (Nat.le_trans u_w0.out bel13.size)
 replace u_x0:=Lib.hid (Nat.le_trans u_x0.out bel13.size)
 replace u_x1:=Lib.hid (Nat.le_trans u_x1.out bel13.size)
 replace v_aD:=Lib.hid (Nat.lt_of_lt_of_le v_aD.out bel13.size)
 replace v_aV:=Lib.hid (Nat.lt_of_lt_of_le v_aV.out bel13.size)
 replace v_x0:=Lib.hid (Nat.lt_of_lt_of_le v_x0.out bel13.size)
 replace v_x1:=Lib.hid (Nat.lt_of_lt_of_le v_x1.out bel13.size)
 have u_x2:=Lib.hid (show W13.heap.size≤W13.heap.size from Nat.le_refl _)
 replace own_w0:=own_w0.keep (Out.of_below bel13 0 0) (.inr (Nat.zero_le _))
 replace own_x0:=own_x0.keep (Out.of_below bel13 0 0) (.inr (Nat.zero_le _))
 replace own_x1:=own_x1.keep (Out.of_below bel13 0 0) (.inr (Nat.zero_le _))
 replace K_aD:=K_aD.later bel13
 replace K_aV:=K_aV.later bel13
 replace K_x0:=K_x0.later bel13
 replace K_x1:=K_x1.later bel13
 clear bel13
 clear b12
 obtain ⟨A_x2,c_x2,rfl⟩:=own_x2.slice
 have c_x0_0:=K_x0.c0
 have c_x1_0:=K_x1.c0
 have c_x1_1:=K_x1.c1
 have c_x1_2:=K_x1.c2
 go_wp2_with fail
 refine (implInvert_law own_x0 ok_0.out own_x1 own_x2 hs1 hs2 HF.out.1 HTab.out b13).mono ?_
 rintro e W14 ⟨g0,rfl,own_g0,bel14⟩
 have o_w0_g0:=u_w0
 have o_x0_g0:=u_x0
 have o_x1_g0:=u_x1
 have o_x2_g0:=u_x2
 have ob_aD_g0:=v_aD
 have ob_aV_g0:=v_aV
 have ob_x0_g0:=v_x0
 have ob_x1_g0:=v_x1
 have pl_g0:=Lib.hid (b13).size
 have b14:=below_step bel14 b13
 replace u_w0:=Lib.hid (Nat.le_trans u_w0.out bel14.size)
 replace u_x0:=Lib.hid (Nat.le_trans u_x0.out bel14.size)
 replace u_x1:=Lib.hid (Nat.le_trans u_x1.out bel14.size)
 replace u_x2:=Lib.hid (Nat.le_trans u_x2.out bel14.size)
 replace v_aD:=Lib.hid (Nat.lt_of_lt_of_le v_aD.out bel14.size)
 replace v_aV:=Lib.hid (Nat.lt_of_lt_of_le v_aV.out bel14.size)
 replace v_x0:=Lib.hid (Nat.lt_of_lt_of_le v_x0.out bel14.size)
 replace v_x1:=Lib.hid (Nat.lt_of_lt_of_le v_x1.out bel14.size)
 have u_g0:=Lib.hid (show W14.heap.size≤W14.heap.size from Nat.le_refl _)
 replace own_w0:=own_w0.keep (Out.of_below bel14 0 0) (.inr (Nat.zero_le _))
 replace own_x0:=own_x0.keep (Out.of_below bel14 0 0) (.inr (Nat.zero_le _))
 replace own_x1:=own_x1.keep (Out.of_below bel14 0 0) (.inr (Nat.zero_le _))
 replace own_x2:=own_x2.keep (Out.of_below bel14 0 0) (.inr (Nat.zero_le _))
 replace c_x0_0:=cell_later bel14 c_x0_0
 replace c_x1_0:=cell_later bel14 c_x1_0
 replace c_x1_1:=cell_later bel14 c_x1_1
 replace c_x1_2:=cell_later bel14 c_x1_2
 replace K_aD:=K_aD.later bel14
 replace K_aV:=K_aV.later bel14
 replace K_x0:=K_x0.later bel14
 replace K_x1:=K_x1.later bel14
 clear bel14
 clear b13
 obtain ⟨A_g0,c_g0,rfl⟩:=own_g0.slice
 clear c_x0_0 c_x1_0 c_x1_1 c_x1_2
 go_wp2_with fail
 refine (eqC_law own_g0 own_w0).mono ?_
 rintro e W15 ⟨rfl,bel15⟩
 have b15:=below_step bel15 b14
 replace u_w0:=Lib.hid (Nat.le_trans u_w0.out bel15.size)
 replace u_x0:=Lib.hid (Nat.le_trans u_x0.out bel15.size)
 replace u_x1:=Lib.hid (Nat.le_trans u_x1.out bel15.size)
 replace u_x2:=Lib.hid (Nat.le_trans u_x2.out bel15.size)
 replace u_g0:=Lib.hid (Nat.le_trans u_g0.out bel15.size)
 replace v_aD:=Lib.hid (Nat.lt_of_lt_of_le v_aD.out bel15.size)
 replace v_aV:=Lib.hid (Nat.lt_of_lt_of_le v_aV.out bel15.size)
 replace v_x0:=Lib.hid (Nat.lt_of_lt_of_le v_x0.out bel15.size)
 replace v_x1:=Lib.hid (Nat.lt_of_lt_of_le v_x1.out bel15.size)
 replace own_w0:=own_w0.keep (Out.of_below bel15 0 0) (.inr (Nat.zero_le _))
 replace own_x0:=own_x0.keep (Out.of_below bel15 0 0) (.inr (Nat.zero_le _))
 replace own_x1:=own_x1.keep (Out.of_below bel15 0 0) (.inr (Nat.zero_le _))
 replace own_x2:=own_x2.keep (Out.of_below bel15 0 0) (.inr (Nat.zero_le _))
 replace own_g0:=own_g0.keep (Out.of_below bel15 0 0) (.inr (Nat.zero_le _))
 replace K_aD:=K_aD.later bel15
 replace K_aV:=K_aV.later bel15
 replace K_x0:=K_x0.later bel15
 replace K_x1:=K_x1.later bel15
 clear bel15
 clear b14
 have c_aD_0:=K_aD.c0
 have c_x0_0:=K_x0.c0
 go_wp2_with fail
 replace own_w0:=own_w0.keep (Out.of_below ((Below.refl W15.heap.size W15).drew) 0 0) (.inr (Nat.zero_le _))
 replace own_x0:=own_x0.keep (Out.of_below ((Below.refl W15.heap.size W15).drew) 0 0) (.inr (Nat.zero_le _))
 replace own_x1:=own_x1.keep (Out.of_below ((Below.refl W15.heap.size W15).drew) 0 0) (.inr (Nat.zero_le _))
 replace own_x2:=own_x2.keep (Out.of_below ((Below.refl W15.heap.size W15).drew) 0 0) (.inr (Nat.zero_le _))
 replace own_g0:=own_g0.keep (Out.of_below ((Below.refl W15.heap.size W15).drew) 0 0) (.inr (Nat.zero_le _))
 replace K_aD:=K_aD.drew
 replace K_aV:=K_aV.drew
 replace K_x0:=K_x0.drew
 replace K_x1:=K_x1.drew
 refine wp_region_held_drew (S:=(fun w9=> w9.cell? ⟨w.heap.size,0,none⟩=some (.slice Aa0 l0.length ca0)∧w9.cell? ⟨W9.heap.size,0,none⟩=some (.slice A_x0 D0.length c_x0))) (by kernel_rfl) ?_ (fun hHeld=> ?_)
 ·(try dsimp only);exact ⟨c_aD_0,c_x0_0⟩
 refine rgTake 0 (some 53) hHeld _ ?_;try go_frame
 refine rgTake 1 (some 54) hHeld _ ?_;try go_frame
 refine rgStep 2 (fun K hK=> ?_)
 go_simp
 refine (toD_law hA0 (b15).drew hs0 HD0.out).mono ?_;rintro e W16 ⟨t3,rfl,own_t3,bel16⟩;have o_w0_t3:=u_w0;have o_x0_t3:=u_x0;have o_x1_t3:=u_x1;have o_x2_t3:=u_x2;have o_g0_t3:=u_g0;have ob_aD_t3:=v_aD;have ob_aV_t3:=v_aV;have ob_x0_t3:=v_x0;have ob_x1_t3:=v_x1;have pl_t3:=Lib.hid ((b15).drew).size;have b16:=below_step bel16 (b15).drew;replace u_w0:=Lib.hid (Nat.le_trans u_w0.out bel16.size);replace u_x0:=Lib.hid (Nat.le_trans u_x0.out bel16.size);replace u_x1:=Lib.hid (Nat.le_trans u_x1.out bel16.size);replace u_x2:=Lib.hid (Nat.le_trans u_x2.out bel16.size);replace u_g0:=Lib.hid (Nat.le_trans u_g0.out bel16.size);replace v_aD:=Lib.hid (Nat.lt_of_lt_of_le v_aD.out bel16.size);replace v_aV:=Lib.hid (Nat.lt_of_lt_of_le v_aV.out bel16.size);replace v_x0:=Lib.hid (Nat.lt_of_lt_of_le v_x0.out bel16.size);replace v_x1:=Lib.hid (Nat.lt_of_lt_of_le v_x1.out bel16.size);have u_t3:=Lib.hid (show W16.heap.size≤W16.heap.size from Nat.le_refl _);replace own_w0:=own_w0.keep (Out.of_below bel16 0 0) (.inr (Nat.zero_le _));replace own_x0:=own_x0.keep (Out.of_below bel16 0 0) (.inr (Nat.zero_le _));replace own_x1:=own_x1.keep (Out.of_below bel16 0 0) (.inr (Nat.zero_le _));replace own_x2:=own_x2.keep (Out.of_below bel16 0 0) (.inr (Nat.zero_le _));replace own_g0:=own_g0.keep (Out.of_below bel16 0 0) (.inr (Nat.zero_le _));replace c_aD_0:=cell_later bel16 c_aD_0;replace c_x0_0:=cell_later bel16 c_x0_0;replace K_aD:=K_aD.later bel16;replace K_aV:=K_aV.later bel16;replace K_x0:=K_x0.later bel16;replace K_x1:=K_x1.later bel16;obtain ⟨A_t3,c_t3,rfl⟩:=own_t3.slice
 (try go_wp2_with fail)
 refine hK.out _ _ ?_ (fun hHeld=> ?_)
 ·(try dsimp only);exact ⟨c_aD_0,c_x0_0⟩
 clear hK K
 try go_frame
 refine rgStep 3 (fun K hK=> ?_)
 go_simp
 refine (eqD_law own_x0 own_t3).mono ?_;rintro e W17 ⟨rfl,bel17⟩;have b17:=below_step bel17 b16;replace u_w0:=Lib.hid (Nat.le_trans u_w0.out bel17.size);replace u_x0:=Lib.hid (Nat.le_trans u_x0.out bel17.size);replace u_x1:=Lib.hid (Nat.le_trans u_x1.out bel17.size);replace u_x2:=Lib.hid (Nat.le_trans u_x2.out bel17.size);replace u_g0:=Lib.hid (Nat.le_trans u_g0.out bel17.size);replace u_t3:=Lib.hid (Nat.le_trans u_t3.out bel17.size);replace v_aD:=Lib.hid (Nat.lt_of_lt_of_le v_aD.out bel17.size);replace v_aV:=Lib.hid (Nat.lt_of_lt_of_le v_aV.out bel17.size);replace v_x0:=Lib.hid (Nat.lt_of_lt_of_le v_x0.out bel17.size);replace v_x1:=Lib.hid (Nat.lt_of_lt_of_le v_x1.out bel17.size);replace own_w0:=own_w0.keep (Out.of_below bel17 0 0) (.inr (Nat.zero_le _));replace own_x0:=own_x0.keep (Out.of_below bel17 0 0) (.inr (Nat.zero_le _));replace own_x1:=own_x1.keep (Out.of_below bel17 0 0) (.inr (Nat.zero_le _));replace own_x2:=own_x2.keep (Out.of_below bel17 0 0) (.inr (Nat.zero_le _));replace own_g0:=own_g0.keep (Out.of_below bel17 0 0) (.inr (Nat.zero_le _));replace own_t3:=own_t3.keep (Out.of_below bel17 0 0) (.inr (Nat.zero_le _));replace c_aD_0:=cell_later bel17 c_aD_0;replace c_x0_0:=cell_later bel17 c_x0_0;replace K_aD:=K_aD.later bel17;replace K_aV:=K_aV.later bel17;replace K_x0:=K_x0.later bel17;replace K_x1:=K_x1.later bel17;clear own_t3
 (try go_wp2_with fail)
 refine hK.out _ _ ?_ (fun hHeld=> ?_)
 ·(try dsimp only);exact ⟨c_aD_0,c_x0_0⟩
 clear hK K
 try go_frame
 refine rgTake 4 (some 57) hHeld _ ?_;try go_frame
 refine wpAnyH_done (by kernel_rfl) ?_ _
 clear c_aD_0 c_x0_0
 have c_aV_0:=K_aV.c0
 have c_aV_1:=K_aV.c1
 have c_aV_2:=K_aV.c2
 have c_x1_0:=K_x1.c0
 have c_x1_1:=K_x1.c1
 have c_x1_2:=K_x1.c2
 go_wp2_with fail
 replace own_w0:=own_w0.keep (Out.of_below ((Below.refl W17.heap.size W17).drew) 0 0) (.inr (Nat.zero_le _))
 replace own_x0:=own_x0.keep (Out.of_below ((Below.refl W17.heap.size W17).drew) 0 0) (.inr (Nat.zero_le _))
 replace own_x1:=own_x1.keep (Out.of_below ((Below.refl W17.heap.size W17).drew) 0 0) (.inr (Nat.zero_le _))
 replace own_x2:=own_x2.keep (Out.of_below ((Below.refl W17.heap.size W17).drew) 0 0) (.inr (Nat.zero_le _))
 replace own_g0:=own_g0.keep (Out.of_below ((Below.refl W17.heap.size W17).drew) 0 0) (.inr (Nat.zero_le _))
 replace K_aD:=K_aD.drew
 replace K_aV:=K_aV.drew
 replace K_x0:=K_x0.drew
 replace K_x1:=K_x1.drew
 refine wp_region_held_drew (S:=(fun w9=> w9.cell? ⟨w.heap.size+1,0,none⟩=some (.int .i64 nn1)∧w9.cell? ⟨w.heap.size+1,1,none⟩=some (.slice Av1 bb1.length cv1)∧w9.cell? ⟨w.heap.size+1,2,none⟩=some (.slice Aw1 ll1.length cw1)∧w9.cell? ⟨W11.heap.size,0,none⟩=some (.int .i64 X1.n)∧w9.cell? ⟨W11.heap.size,1,none⟩=some (.slice Ap_x1 X1.b.length cp_x1)∧w9.cell? ⟨W11.heap.size,2,none⟩=some (.slice Aq_x1 X1.items.length cq_x1))) (by kernel_rfl) ?_ (fun hHeld=> ?_)
 ·(try dsimp only);exact ⟨c_aV_0,c_aV_1,c_aV_2,c_x1_0,c_x1_1,c_x1_2⟩
 refine rgTake 0 (some 58) hHeld _ ?_;try go_frame
 refine rgTake 1 (some 59) hHeld _ ?_;try go_frame
 refine rgStep 2 (fun K hK=> ?_)
 go_simp
 refine (toV_law HV1.out.1 HV1.out.2 rfl (b17).drew hs1).mono ?_;rintro e W18 ⟨u_t4,rfl,own_t4,bel18⟩;have o_w0_t4:=u_w0;have o_x0_t4:=u_x0;have o_x1_t4:=u_x1;have o_x2_t4:=u_x2;have o_g0_t4:=u_g0;have ob_aD_t4:=v_aD;have ob_aV_t4:=v_aV;have ob_x0_t4:=v_x0;have ob_x1_t4:=v_x1;have pl_t4:=Lib.hid ((b17).drew).size;have b18:=below_step bel18 (b17).drew;replace u_w0:=Lib.hid (Nat.le_trans u_w0.out bel18.size);replace u_x0:=Lib.hid (Nat.le_trans u_x0.out bel18.size);replace u_x1:=Lib.hid (Nat.le_trans u_x1.out bel18.size);replace u_x2:=Lib.hid (Nat.le_trans u_x2.out bel18.size);replace u_g0:=Lib.hid (Nat.le_trans u_g0.out bel18.size);replace v_aD:=Lib.hid (Nat.lt_of_lt_of_le v_aD.out bel18.size);replace v_aV:=Lib.hid (Nat.lt_of_lt_of_le v_aV.out bel18.size);replace v_x0:=Lib.hid (Nat.lt_of_lt_of_le v_x0.out bel18.size);replace v_x1:=Lib.hid (Nat.lt_of_lt_of_le v_x1.out bel18.size);have u_t4:=Lib.hid (show W18.heap.size≤W18.heap.size from Nat.le_refl _);replace own_w0:=own_w0.keep (Out.of_below bel18 0 0) (.inr (Nat.zero_le _));replace own_x0:=own_x0.keep (Out.of_below bel18 0 0) (.inr (Nat.zero_le _));replace own_x1:=own_x1.keep (Out.of_below bel18 0 0) (.inr (Nat.zero_le _));replace own_x2:=own_x2.keep (Out.of_below bel18 0 0) (.inr (Nat.zero_le _));replace own_g0:=own_g0.keep (Out.of_below bel18 0 0) (.inr (Nat.zero_le _));replace c_aV_0:=cell_later bel18 c_aV_0;replace c_aV_1:=cell_later bel18 c_aV_1;replace c_aV_2:=cell_later bel18 c_aV_2;replace c_x1_0:=cell_later bel18 c_x1_0;replace c_x1_1:=cell_later bel18 c_x1_1;replace c_x1_2:=cell_later bel18 c_x1_2;replace K_aD:=K_aD.later bel18;replace K_aV:=K_aV.later bel18;replace K_x0:=K_x0.later bel18;replace K_x1:=K_x1.later bel18;obtain ⟨Ap_t4,cp_t4,Aq_t4,cq_t4,rfl⟩:=own_t4.agg
 (try go_wp2_with fail)
 refine hK.out _ _ ?_ (fun hHeld=> ?_)
 ·(try dsimp only);exact ⟨c_aV_0,c_aV_1,c_aV_2,c_x1_0,c_x1_1,c_x1_2⟩
 clear hK K
 try go_frame
 refine rgStep 3 (fun K hK=> ?_)
 go_simp
 refine (eqV_law own_x1 own_t4).mono ?_;rintro e W19 ⟨rfl,bel19⟩;have b19:=below_step bel19 b18;replace u_w0:=Lib.hid (Nat.le_trans u_w0.out bel19.size);replace u_x0:=Lib.hid (Nat.le_trans u_x0.out bel19.size);replace u_x1:=Lib.hid (Nat.le_trans u_x1.out bel19.size);replace u_x2:=Lib.hid (Nat.le_trans u_x2.out bel19.size);replace u_g0:=Lib.hid (Nat.le_trans u_g0.out bel19.size);replace u_t4:=Lib.hid (Nat.le_trans u_t4.out bel19.size);replace v_aD:=Lib.hid (Nat.lt_of_lt_of_le v_aD.out bel19.size);replace v_aV:=Lib.hid (Nat.lt_of_lt_of_le v_aV.out bel19.size);replace v_x0:=Lib.hid (Nat.lt_of_lt_of_le v_x0.out bel19.size);replace v_x1:=Lib.hid (Nat.lt_of_lt_of_le v_x1.out bel19.size);replace own_w0:=own_w0.keep (Out.of_below bel19 0 0) (.inr (Nat.zero_le _));replace own_x0:=own_x0.keep (Out.of_below bel19 0 0) (.inr (Nat.zero_le _));replace own_x1:=own_x1.keep (Out.of_below bel19 0 0) (.inr (Nat.zero_le _));replace own_x2:=own_x2.keep (Out.of_below bel19 0 0) (.inr (Nat.zero_le _));replace own_g0:=own_g0.keep (Out.of_below bel19 0 0) (.inr (Nat.zero_le _));replace own_t4:=own_t4.keep (Out.of_below bel19 0 0) (.inr (Nat.zero_le _));replace c_aV_0:=cell_later bel19 c_aV_0;replace c_aV_1:=cell_later bel19 c_aV_1;replace c_aV_2:=cell_later bel19 c_aV_2;replace c_x1_0:=cell_later bel19 c_x1_0;replace c_x1_1:=cell_later bel19 c_x1_1;replace c_x1_2:=cell_later bel19 c_x1_2;replace K_aD:=K_aD.later bel19;replace K_aV:=K_aV.later bel19;replace K_x0:=K_x0.later bel19;replace K_x1:=K_x1.later bel19;clear own_t4
 (try go_wp2_with fail)
 refine hK.out _ _ ?_ (fun hHeld=> ?_)
 ·(try dsimp only);exact ⟨c_aV_0,c_aV_1,c_aV_2,c_x1_0,c_x1_1,c_x1_2⟩
 clear hK K
 try go_frame
 refine rgTake 4 (some 62) hHeld _ ?_;try go_frame
 refine wpAnyH_done (by kernel_rfl) ?_ _
 clear c_aV_0 c_aV_1 c_aV_2 c_x1_0 c_x1_1 c_x1_2
 go_wp2_with fail
 refine (toC_law hA2 HC2.out b19 hs2).mono ?_
 rintro e W20 ⟨t5,rfl,own_t5,bel20⟩
 have o_w0_t5:=u_w0
 have o_x0_t5:=u_x0
 have o_x1_t5:=u_x1
 have o_x2_t5:=u_x2
 have o_g0_t5:=u_g0
 have ob_aD_t5:=v_aD
 have ob_aV_t5:=v_aV
 have ob_x0_t5:=v_x0
 have ob_x1_t5:=v_x1
 have pl_t5:=Lib.hid (b19).size
 have b20:=below_step bel20 b19
 replace u_w0:=Lib.hid (Nat.le_trans u_w0.out bel20.size)
 replace u_x0:=Lib.hid (Nat.le_trans u_x0.out bel20.size)
 replace u_x1:=Lib.hid (Nat.le_trans u_x1.out bel20.size)
 replace u_x2:=Lib.hid (Nat.le_trans u_x2.out bel20.size)
 replace u_g0:=Lib.hid (Nat.le_trans u_g0.out bel20.size)
 replace v_aD:=Lib.hid (Nat.lt_of_lt_of_le v_aD.out bel20.size)
 replace v_aV:=Lib.hid (Nat.lt_of_lt_of_le v_aV.out bel20.size)
 replace v_x0:=Lib.hid (Nat.lt_of_lt_of_le v_x0.out bel20.size)
 replace v_x1:=Lib.hid (Nat.lt_of_lt_of_le v_x1.out bel20.size)
 have u_t5:=Lib.hid (show W20.heap.size≤W20.heap.size from Nat.le_refl _)
 replace own_w0:=own_w0.keep (Out.of_below bel20 0 0) (.inr (Nat.zero_le _))
 replace own_x0:=own_x0.keep (Out.of_below bel20 0 0) (.inr (Nat.zero_le _))
 replace own_x1:=own_x1.keep (Out.of_below bel20 0 0) (.inr (Nat.zero_le _))
 replace own_x2:=own_x2.keep (Out.of_below bel20 0 0) (.inr (Nat.zero_le _))
 replace own_g0:=own_g0.keep (Out.of_below bel20 0 0) (.inr (Nat.zero_le _))
 replace K_aD:=K_aD.later bel20
 replace K_aV:=K_aV.later bel20
 replace K_x0:=K_x0.later bel20
 replace K_x1:=K_x1.later bel20
 clear bel20
 clear b19
 obtain ⟨A_t5,c_t5,rfl⟩:=own_t5.slice
 go_wp2_with fail
 refine (eqC_law own_x2 own_t5).mono ?_
 rintro e W21 ⟨rfl,bel21⟩
 have b21:=below_step bel21 b20
 replace u_w0:=Lib.hid (Nat.le_trans u_w0.out bel21.size)
 replace u_x0:=Lib.hid (Nat.le_trans u_x0.out bel21.size)
 replace u_x1:=Lib.hid (Nat.le_trans u_x1.out bel21.size)
 replace u_x2:=Lib.hid (Nat.le_trans u_x2.out bel21.size)
 replace u_g0:=Lib.hid (Nat.le_trans u_g0.out bel21.size)
 replace u_t5:=Lib.hid (Nat.le_trans u_t5.out bel21.size)
 replace v_aD:=Lib.hid (Nat.lt_of_lt_of_le v_aD.out bel21.size)
 replace v_aV:=Lib.hid (Nat.lt_of_lt_of_le v_aV.out bel21.size)
 replace v_x0:=Lib.hid (Nat.lt_of_lt_of_le v_x0.out bel21.size)
 replace v_x1:=Lib.hid (Nat.lt_of_lt_of_le v_x1.out bel21.size)
 replace own_w0:=own_w0.keep (Out.of_below bel21 0 0) (.inr (Nat.zero_le _))
 replace own_x0:=own_x0.keep (Out.of_below bel21 0 0) (.inr (Nat.zero_le _))
 replace own_x1:=own_x1.keep (Out.of_below bel21 0 0) (.inr (Nat.zero_le _))
 replace own_x2:=own_x2.keep (Out.of_below bel21 0 0) (.inr (Nat.zero_le _))
 replace own_g0:=own_g0.keep (Out.of_below bel21 0 0) (.inr (Nat.zero_le _))
 replace own_t5:=own_t5.keep (Out.of_below bel21 0 0) (.inr (Nat.zero_le _))
 replace K_aD:=K_aD.later bel21
 replace K_aV:=K_aV.later bel21
 replace K_x0:=K_x0.later bel21
 replace K_x1:=K_x1.later bel21
 clear bel21
 clear b20
 clear own_t5
 have c_x0_0:=K_x0.c0
 go_wp2_with fail
 refine (markD_law own_x0 1 (by omega) (by omega) (by rw [←HD0.out,List.length_map];exact hs0.1) ok_0.out.sm).mono ?_
 rintro e W22 ⟨rr22,rfl,ge22,gk22,le22,out22⟩
 have b22:=Out.below out22 b21 pl_x0.out
 clear own_x0
 clear b21
 replace own_w0:=own_w0.keep out22 (.inl o_w0_x0.out)
 replace own_x1:=own_x1.keep out22 (.inr o_x0_x1.out)
 replace own_x2:=own_x2.keep out22 (.inr o_x0_x2.out)
 replace own_g0:=own_g0.keep out22 (.inr o_x0_g0.out)
 replace c_x0_0:W22.cell? ⟨W9.heap.size,0,none⟩=some (.slice A_x0 D0.length c_x0):=out22.cell (p:=⟨W9.heap.size,0,none⟩) c_x0_0 (.inr or_x0_x0.out)
 replace u_w0:=Lib.hid (Nat.le_trans u_w0.out out22.size)
 replace u_x0:=Lib.hid (Nat.le_trans u_x0.out out22.size)
 replace u_x1:=Lib.hid (Nat.le_trans u_x1.out out22.size)
 replace u_x2:=Lib.hid (Nat.le_trans u_x2.out out22.size)
 replace u_g0:=Lib.hid (Nat.le_trans u_g0.out out22.size)
 replace v_aD:=Lib.hid (Nat.lt_of_lt_of_le v_aD.out out22.size)
 replace v_aV:=Lib.hid (Nat.lt_of_lt_of_le v_aV.out out22.size)
 replace v_x0:=Lib.hid (Nat.lt_of_lt_of_le v_x0.out out22.size)
 replace v_x1:=Lib.hid (Nat.lt_of_lt_of_le v_x1.out out22.size)
 replace K_aD:=K_aD.out out22 (.inl ob_aD_x0.out)
 replace K_aV:=K_aV.out out22 (.inl ob_aV_x0.out)
 replace K_x0:=K_x0.out out22 (.inr or_x0_x0.out)
 replace K_x1:=K_x1.out out22 (.inr or_x0_x1.out)
 clear c_x0_0
 have c_x1_0:=K_x1.c0
 have c_x1_1:=K_x1.c1
 have c_x1_2:=K_x1.c2
 go_wp2_with fail
 refine (markV_law own_x1 rr22 (by omega) (by omega)).mono ?_
 rintro e W23 ⟨rr23,rfl,re23,mk_x1,out23⟩
 obtain ⟨rg23,rl23⟩:(rr22:Int)≤rr23∧rr23≤(rr22:Int)+4194304:=by omega
 clear re23
 have b23:=Out.below out23 b22 pl_x1.out
 clear own_x1
 clear b22
 replace own_w0:=own_w0.keep out23 (.inl o_w0_x1.out)
 replace own_x2:=own_x2.keep out23 (.inr o_x1_x2.out)
 replace own_g0:=own_g0.keep out23 (.inr o_x1_g0.out)
 replace c_x1_0:W23.cell? ⟨W11.heap.size,0,none⟩=some (.int .i64 X1.n):=out23.cell (p:=⟨W11.heap.size,0,none⟩) c_x1_0 (.inr or_x1_x1.out)
 replace c_x1_1:W23.cell? ⟨W11.heap.size,1,none⟩=some (.slice Ap_x1 X1.b.length cp_x1):=out23.cell (p:=⟨W11.heap.size,1,none⟩) c_x1_1 (.inr or_x1_x1.out)
 replace c_x1_2:W23.cell? ⟨W11.heap.size,2,none⟩=some (.slice Aq_x1 X1.items.length cq_x1):=out23.cell (p:=⟨W11.heap.size,2,none⟩) c_x1_2 (.inr or_x1_x1.out)
 replace u_w0:=Lib.hid (Nat.le_trans u_w0.out out23.size)
 replace u_x1:=Lib.hid (Nat.le_trans u_x1.out out23.size)
 replace u_x2:=Lib.hid (Nat.le_trans u_x2.out out23.size)
 replace u_g0:=Lib.hid (Nat.le_trans u_g0.out out23.size)
 replace v_aD:=Lib.hid (Nat.lt_of_lt_of_le v_aD.out out23.size)
 replace v_aV:=Lib.hid (Nat.lt_of_lt_of_le v_aV.out out23.size)
 replace v_x0:=Lib.hid (Nat.lt_of_lt_of_le v_x0.out out23.size)
 replace v_x1:=Lib.hid (Nat.lt_of_lt_of_le v_x1.out out23.size)
 replace K_aD:=K_aD.out out23 (.inl ob_aD_x1.out)
 replace K_aV:=K_aV.out out23 (.inl ob_aV_x1.out)
 replace K_x0:=K_x0.out out23 (.inl ob_x0_x1.out)
 replace K_x1:=K_x1.out out23 (.inr or_x1_x1.out)
 clear mk_x1
 clear c_x1_0 c_x1_1 c_x1_2
 go_wp2_with fail
 refine (markC_law own_x2 rr23 (by omega) (by omega)).mono ?_
 rintro e W24 ⟨rr24,rfl,ge24,le24,mk_x2,out24⟩
 have b24:=Out.below out24 b23 pl_x2.out
 clear own_x2
 clear b23
 replace own_w0:=own_w0.keep out24 (.inl o_w0_x2.out)
 replace own_g0:=own_g0.keep out24 (.inr o_x2_g0.out)
 replace u_w0:=Lib.hid (Nat.le_trans u_w0.out out24.size)
 replace u_x2:=Lib.hid (Nat.le_trans u_x2.out out24.size)
 replace u_g0:=Lib.hid (Nat.le_trans u_g0.out out24.size)
 replace v_aD:=Lib.hid (Nat.lt_of_lt_of_le v_aD.out out24.size)
 replace v_aV:=Lib.hid (Nat.lt_of_lt_of_le v_aV.out out24.size)
 replace v_x0:=Lib.hid (Nat.lt_of_lt_of_le v_x0.out out24.size)
 replace v_x1:=Lib.hid (Nat.lt_of_lt_of_le v_x1.out out24.size)
 replace K_aD:=K_aD.out out24 (.inl ob_aD_x2.out)
 replace K_aV:=K_aV.out out24 (.inl ob_aV_x2.out)
 replace K_x0:=K_x0.out out24 (.inl ob_x0_x2.out)
 replace K_x1:=K_x1.out out24 (.inl ob_x1_x2.out)
 clear mk_x2
 go_wp2_with fail
 refine (eqC_law own_g0 own_w0).mono ?_
 rintro e W25 ⟨rfl,bel25⟩
 have b25:=below_step bel25 b24
 replace u_w0:=Lib.hid (Nat.le_trans u_w0.out bel25.size)
 replace u_g0:=Lib.hid (Nat.le_trans u_g0.out bel25.size)
 replace v_aD:=Lib.hid (Nat.lt_of_lt_of_le v_aD.out bel25.size)
 replace v_aV:=Lib.hid (Nat.lt_of_lt_of_le v_aV.out bel25.size)
 replace v_x0:=Lib.hid (Nat.lt_of_lt_of_le v_x0.out bel25.size)
 replace v_x1:=Lib.hid (Nat.lt_of_lt_of_le v_x1.out bel25.size)
 replace own_w0:=own_w0.keep (Out.of_below bel25 0 0) (.inr (Nat.zero_le _))
 replace own_g0:=own_g0.keep (Out.of_below bel25 0 0) (.inr (Nat.zero_le _))
 replace K_aD:=K_aD.later bel25
 replace K_aV:=K_aV.later bel25
 replace K_x0:=K_x0.later bel25
 replace K_x1:=K_x1.later bel25
 clear bel25
 clear b24
 go_wp2_with fail
 refine (markC_law own_g0 1 (by omega) (by omega)).mono ?_
 rintro e W26 ⟨rr26,rfl,ge26,le26,mk_g0,out26⟩
 have b26:=Out.below out26 b25 pl_g0.out
 clear own_g0
 clear b25
 replace own_w0:=own_w0.keep out26 (.inl o_w0_g0.out)
 replace u_w0:=Lib.hid (Nat.le_trans u_w0.out out26.size)
 replace u_g0:=Lib.hid (Nat.le_trans u_g0.out out26.size)
 replace v_aD:=Lib.hid (Nat.lt_of_lt_of_le v_aD.out out26.size)
 replace v_aV:=Lib.hid (Nat.lt_of_lt_of_le v_aV.out out26.size)
 replace v_x0:=Lib.hid (Nat.lt_of_lt_of_le v_x0.out out26.size)
 replace v_x1:=Lib.hid (Nat.lt_of_lt_of_le v_x1.out out26.size)
 replace K_aD:=K_aD.out out26 (.inl ob_aD_g0.out)
 replace K_aV:=K_aV.out out26 (.inl ob_aV_g0.out)
 replace K_x0:=K_x0.out out26 (.inl ob_x0_g0.out)
 replace K_x1:=K_x1.out out26 (.inl ob_x1_g0.out)
 go_wp2_with fail
 refine (heldC_law mk_g0).mono ?_
 rintro e W27 ⟨rfl,bel27⟩
 have b27:=below_step bel27 b26
 replace u_w0:=Lib.hid (Nat.le_trans u_w0.out bel27.size)
 replace u_g0:=Lib.hid (Nat.le_trans u_g0.out bel27.size)
 replace v_aD:=Lib.hid (Nat.lt_of_lt_of_le v_aD.out bel27.size)
 replace v_aV:=Lib.hid (Nat.lt_of_lt_of_le v_aV.out bel27.size)
 replace v_x0:=Lib.hid (Nat.lt_of_lt_of_le v_x0.out bel27.size)
 replace v_x1:=Lib.hid (Nat.lt_of_lt_of_le v_x1.out bel27.size)
 replace own_w0:=own_w0.keep (Out.of_below bel27 0 0) (.inr (Nat.zero_le _))
 replace mk_g0:=mk_g0.keep (Out.of_below bel27 0 0) (.inr (Nat.zero_le _))
 replace K_aD:=K_aD.later bel27
 replace K_aV:=K_aV.later bel27
 replace K_x0:=K_x0.later bel27
 replace K_x1:=K_x1.later bel27
 clear bel27
 clear b26
 have c_aD_0:=K_aD.c0
 have c_aV_0:=K_aV.c0
 have c_aV_1:=K_aV.c1
 have c_aV_2:=K_aV.c2
 clear c_aD_0 c_aV_0 c_aV_1 c_aV_2
 (try clear o_g0_t3)
 (try clear o_g0_t4)
 (try clear o_g0_t5)
 (try clear o_t0_t1)
 (try clear o_t0_t2)
 (try clear o_t0_w0)
 (try clear o_t1_t2)
 (try clear o_t1_w0)
 (try clear o_t2_w0)
 (try clear o_w0_g0)
 (try clear o_w0_t3)
 (try clear o_w0_t4)
 (try clear o_w0_t5)
 (try clear o_w0_x0)
 (try clear o_w0_x1)
 (try clear o_w0_x2)
 (try clear o_x0_g0)
 (try clear o_x0_t3)
 (try clear o_x0_t4)
 (try clear o_x0_t5)
 (try clear o_x0_x1)
 (try clear o_x0_x2)
 (try clear o_x1_g0)
 (try clear o_x1_t3)
 (try clear o_x1_t4)
 (try clear o_x1_t5)
 (try clear o_x1_x2)
 (try clear o_x2_g0)
 (try clear o_x2_t3)
 (try clear o_x2_t4)
 (try clear o_x2_t5)
 (try clear ob_aD_g0)
 (try clear ob_aD_t0)
 (try clear ob_aD_t1)
 (try clear ob_aD_t2)
 (try clear ob_aD_t3)
 (try clear ob_aD_t4)
 (try clear ob_aD_t5)
 (try clear ob_aD_w0)
 (try clear ob_aD_x0)
 (try clear ob_aD_x1)
 (try clear ob_aD_x2)
 (try clear ob_aV_g0)
 (try clear ob_aV_t0)
 (try clear ob_aV_t1)
 (try clear ob_aV_t2)
 (try clear ob_aV_t3)
 (try clear ob_aV_t4)
 (try clear ob_aV_t5)
 (try clear ob_aV_w0)
 (try clear ob_aV_x0)
 (try clear ob_aV_x1)
 (try clear ob_aV_x2)
 (try clear ob_x0_g0)
 (try clear ob_x0_t3)
 (try clear ob_x0_t4)
 (try clear ob_x0_t5)
 (try clear ob_x0_x1)
 (try clear ob_x0_x2)
 (try clear ob_x1_g0)
 (try clear ob_x1_t3)
 (try clear ob_x1_t4)
 (try clear ob_x1_t5)
 (try clear ob_x1_x2)
 (try clear or_w0_x0)
 (try clear or_w0_x1)
 (try clear or_x0_x0)
 (try clear or_x0_x1)
 (try clear or_x1_x1)
 (try clear pl_g0)
 (try clear pl_t0)
 (try clear pl_t1)
 (try clear pl_t2)
 (try clear pl_t3)
 (try clear pl_t4)
 (try clear pl_t5)
 (try clear pl_w0)
 (try clear pl_x0)
 (try clear pl_x1)
 (try clear pl_x2)
 (try clear u_g0)
 (try clear u_t0)
 (try clear u_t1)
 (try clear u_t2)
 (try clear u_t3)
 (try clear u_t4)
 (try clear u_t5)
 (try clear u_w0)
 (try clear u_x0)
 (try clear u_x1)
 (try clear u_x2)
 (try clear v_aD)
 (try clear v_aV)
 (try clear v_x0)
 (try clear v_x1)
 clear K_x0
 clear K_x1
 have c_aD_0:=K_aD.c0
 have c_aV_0:=K_aV.c0
 have c_aV_1:=K_aV.c1
 have c_aV_2:=K_aV.c2
 go_wp2_with fail
 replace own_w0:=own_w0.keep (Out.of_below ((Below.refl W27.heap.size W27).drew) 0 0) (.inr (Nat.zero_le _))
 replace mk_g0:=mk_g0.keep (Out.of_below ((Below.refl W27.heap.size W27).drew) 0 0) (.inr (Nat.zero_le _))
 replace K_aD:=K_aD.drew
 replace K_aV:=K_aV.drew
 refine wp_region_held_drew (S:=(fun w9=> w9.cell? ⟨w.heap.size,0,none⟩=some (.slice Aa0 l0.length ca0)∧w9.cell? ⟨w.heap.size+1,0,none⟩=some (.int .i64 nn1)∧w9.cell? ⟨w.heap.size+1,1,none⟩=some (.slice Av1 bb1.length cv1)∧w9.cell? ⟨w.heap.size+1,2,none⟩=some (.slice Aw1 ll1.length cw1))) (by kernel_rfl) ?_ (fun hHeld=> ?_)
 ·(try dsimp only);exact ⟨c_aD_0,c_aV_0,c_aV_1,c_aV_2⟩
 refine rgTake 0 (some 96) hHeld _ ?_;try go_frame
 refine rgTake 2 (some 98) hHeld _ ?_;try go_frame
 refine rgTake 4 (some 100) hHeld _ ?_;try go_frame
 refine rgStep 1 (fun K hK=> ?_)
 go_simp
 refine (toD_law hA0 (b27).drew hs0 HD0.out).mono ?_;rintro e W28 ⟨t6,rfl,own_t6,bel28⟩;have b28:=below_step bel28 (b27).drew;replace own_w0:=own_w0.keep (Out.of_below bel28 0 0) (.inr (Nat.zero_le _));replace mk_g0:=mk_g0.keep (Out.of_below bel28 0 0) (.inr (Nat.zero_le _));replace c_aD_0:=cell_later bel28 c_aD_0;replace c_aV_0:=cell_later bel28 c_aV_0;replace c_aV_1:=cell_later bel28 c_aV_1;replace c_aV_2:=cell_later bel28 c_aV_2;replace K_aD:=K_aD.later bel28;replace K_aV:=K_aV.later bel28;obtain ⟨A_t6,c_t6,rfl⟩:=own_t6.slice
 (try go_wp2_with fail)
 refine hK.out _ _ ?_ (fun hHeld=> ?_)
 ·(try dsimp only);exact ⟨c_aD_0,c_aV_0,c_aV_1,c_aV_2⟩
 clear hK K
 try go_frame
 refine rgStep 3 (fun K hK=> ?_)
 go_simp
 refine (toV_law HV1.out.1 HV1.out.2 rfl b28 hs1).mono ?_;rintro e W29 ⟨u_t7,rfl,own_t7,bel29⟩;have b29:=below_step bel29 b28;replace own_w0:=own_w0.keep (Out.of_below bel29 0 0) (.inr (Nat.zero_le _));replace mk_g0:=mk_g0.keep (Out.of_below bel29 0 0) (.inr (Nat.zero_le _));replace own_t6:=own_t6.keep (Out.of_below bel29 0 0) (.inr (Nat.zero_le _));replace c_aD_0:=cell_later bel29 c_aD_0;replace c_aV_0:=cell_later bel29 c_aV_0;replace c_aV_1:=cell_later bel29 c_aV_1;replace c_aV_2:=cell_later bel29 c_aV_2;replace K_aD:=K_aD.later bel29;replace K_aV:=K_aV.later bel29;obtain ⟨Ap_t7,cp_t7,Aq_t7,cq_t7,rfl⟩:=own_t7.agg
 (try go_wp2_with fail)
 refine hK.out _ _ ?_ (fun hHeld=> ?_)
 ·(try dsimp only);exact ⟨c_aD_0,c_aV_0,c_aV_1,c_aV_2⟩
 clear hK K
 try go_frame
 refine rgStep 5 (fun K hK=> ?_)
 go_simp
 refine (toC_law hA2 HC2.out b29 hs2).mono ?_;rintro e W30 ⟨t8,rfl,own_t8,bel30⟩;have b30:=below_step bel30 b29;replace own_w0:=own_w0.keep (Out.of_below bel30 0 0) (.inr (Nat.zero_le _));replace mk_g0:=mk_g0.keep (Out.of_below bel30 0 0) (.inr (Nat.zero_le _));replace own_t6:=own_t6.keep (Out.of_below bel30 0 0) (.inr (Nat.zero_le _));replace own_t7:=own_t7.keep (Out.of_below bel30 0 0) (.inr (Nat.zero_le _));replace c_aD_0:=cell_later bel30 c_aD_0;replace c_aV_0:=cell_later bel30 c_aV_0;replace c_aV_1:=cell_later bel30 c_aV_1;replace c_aV_2:=cell_later bel30 c_aV_2;replace K_aD:=K_aD.later bel30;replace K_aV:=K_aV.later bel30;obtain ⟨A_t8,c_t8,rfl⟩:=own_t8.slice
 (try go_wp2_with fail)
 refine hK.out _ _ ?_ (fun hHeld=> ?_)
 ·(try dsimp only);exact ⟨c_aD_0,c_aV_0,c_aV_1,c_aV_2⟩
 clear hK K
 try go_frame
 refine rgStep 6 (fun K hK=> ?_)
 go_simp
 refine (implInvert_law own_t6 ok_0.out own_t7 own_t8 hs1 hs2 HF.out.1 HTab.out b30).mono ?_;rintro e W31 ⟨h0,rfl,own_h0,bel31⟩;have b31:=below_step bel31 b30;replace own_w0:=own_w0.keep (Out.of_below bel31 0 0) (.inr (Nat.zero_le _));replace mk_g0:=mk_g0.keep (Out.of_below bel31 0 0) (.inr (Nat.zero_le _));replace own_t6:=own_t6.keep (Out.of_below bel31 0 0) (.inr (Nat.zero_le _));replace own_t7:=own_t7.keep (Out.of_below bel31 0 0) (.inr (Nat.zero_le _));replace own_t8:=own_t8.keep (Out.of_below bel31 0 0) (.inr (Nat.zero_le _));replace c_aD_0:=cell_later bel31 c_aD_0;replace c_aV_0:=cell_later bel31 c_aV_0;replace c_aV_1:=cell_later bel31 c_aV_1;replace c_aV_2:=cell_later bel31 c_aV_2;replace K_aD:=K_aD.later bel31;replace K_aV:=K_aV.later bel31;obtain ⟨A_h0,c_h0,rfl⟩:=own_h0.slice;clear own_t6;clear own_t7;clear own_t8
 (try go_wp2_with fail)
 refine hK.out _ _ ?_ (fun hHeld=> ?_)
 ·(try dsimp only);exact ⟨c_aD_0,c_aV_0,c_aV_1,c_aV_2⟩
 clear hK K
 try go_frame
 refine rgTake 7 (some 16) hHeld _ ?_;try go_frame
 refine wpAnyH_done (by kernel_rfl) ?_ _
 clear c_aD_0 c_aV_0 c_aV_1 c_aV_2
 go_wp2_with fail
 refine (eqC_law own_h0 own_w0).mono ?_
 rintro e W32 ⟨rfl,bel32⟩
 have b32:=below_step bel32 b31
 replace own_w0:=own_w0.keep (Out.of_below bel32 0 0) (.inr (Nat.zero_le _))
 replace mk_g0:=mk_g0.keep (Out.of_below bel32 0 0) (.inr (Nat.zero_le _))
 replace own_h0:=own_h0.keep (Out.of_below bel32 0 0) (.inr (Nat.zero_le _))
 replace K_aD:=K_aD.later bel32
 replace K_aV:=K_aV.later bel32
 clear bel32
 clear b31
 go_wp2_with fail
 refine (heldC_law mk_g0).mono ?_
 rintro e W33 ⟨rfl,bel33⟩
 have b33:=below_step bel33 b32
 replace own_w0:=own_w0.keep (Out.of_below bel33 0 0) (.inr (Nat.zero_le _))
 replace mk_g0:=mk_g0.keep (Out.of_below bel33 0 0) (.inr (Nat.zero_le _))
 replace own_h0:=own_h0.keep (Out.of_below bel33 0 0) (.inr (Nat.zero_le _))
 replace K_aD:=K_aD.later bel33
 replace K_aV:=K_aV.later bel33
 clear bel33
 clear b32
 have HB:=Lib.hid b33
 clear own_w0 mk_g0 own_h0 hA0 ok0 hA2 ok2
 go_wp2
 go_ret
 exact ⟨rfl,HB.out⟩
end Go.Proofs.YtipfacnmobineaaGreatDoor.FnExactInvertChanges
