/- The walk of the law FnExactApplyChanges. No condition but those of its arguments. -/
import Derived.Test.YtipfacnmobineaaGreatDoorXApL
import Derived.Test.YtipfacnmobineaaGreatDoorGf
import Derived.Test.YtipfacnmobineaaGreatDoorGa
import Derived.Test.YtipfacnmobineaaGreatDoorGv
import Derived.WalkSpells
import Derived.WalkLawsBesides
import Derived.Deep.RegionHeld3
set_option linter.unusedSimpArgs false
set_option linter.unusedVariables false
namespace Go.Proofs.YtipfacnmobineaaGreatDoor.FnExactApplyChanges
open Go.RowKit
set_option maxHeartbeats 16000000 in
set_option maxRecDepth 100000 in
theorem walk (v0:Value) (l0:List RM) (e1:VM) (v2:Value) (l2:List CM) (w:World) (hA0:SlD w w.heap.size v0 l0) (ok0:∀r∈l0,r.d.ok) (hA1:e1.rd w w.heap.size) (ok1:e1.d.ok) (hA2:SlC w w.heap.size v2 l2) (ok2:∀r∈l2,r.d.ok) (htab:Tab w):
  Calls Tryz.prog 3 #[.agg #[v0],vmV e1,v2] w fun e w'=> e= .returned (.bool true)∧Below w.heap.size w w':=by
 obtain ⟨Aa0,ca0,rfl⟩:∃A c,v0= .slice A l0.length c:=by obtain ⟨A,c,h, -⟩:=hA0.open_;exact ⟨A,c,h⟩
 obtain ⟨D0,hD0⟩:∃D,l0.map RM.d=D:=⟨_,rfl⟩
 have HD0:=Lib.hid hD0
 clear hD0
 obtain ⟨nn1,bb1,vb1,vi1,ll1⟩:=e1
 obtain ⟨Av1,cv1,ev1, -⟩:=hA1.bytes.open_
 obtain ⟨Aw1,cw1,ew1, -⟩:=hA1.its.open_
 simp only [VM.vb_mk,VM.b_mk,VM.vi_mk,VM.items_mk] at ev1 ew1
 subst ev1 ew1
 obtain ⟨X1,hX1⟩:∃X,(VM.mk nn1 bb1 (.slice Av1 bb1.length cv1) (.slice Aw1 ll1.length cw1) ll1).d=X:=⟨_,rfl⟩
 have HV1:=Lib.hid (And.intro hA1 hX1)
 clear hA1 hX1 ok1
 simp only [vmV,VM.n_mk,VM.vb_mk,VM.vi_mk]
 obtain ⟨Ac2,cc2,rfl⟩:∃A c,v2= .slice A l2.length c:=by obtain ⟨A,c,h, -⟩:=hA2.open_;exact ⟨A,c,h⟩
 obtain ⟨C2,hC2⟩:∃C,l2.map CM.d=C:=⟨_,rfl⟩
 have HC2:=Lib.hid hC2
 clear hC2
 have HTab:=Lib.hid htab
 clear htab
 obtain ⟨FX,FB,hF⟩:∃a b,applyV D0 X1 C2 X1=(a,b):=⟨_,_,rfl⟩
 have hFs:=apply_size hF
 have HF:=Lib.hid (And.intro hF True.intro)
 clear hF
 go_enter Tryz.func3,Tryz.ntmps3
 have b0:Below w.heap.size w (w.alloc (.cells #[.slice Aa0 l0.length ca0] 24)):=(Below.refl w.heap.size w).alloc ((Below.refl w.heap.size w)).size _
 have v_aD:=Lib.hid (show w.heap.size < (w.alloc (.cells #[.slice Aa0 l0.length ca0] 24)).heap.size by simp)
 have K_aD:K1 (w.alloc (.cells #[.slice Aa0 l0.length ca0] 24)) (w.heap.size) (.slice Aa0 l0.length ca0):=⟨by simp [go_sem]⟩
 have b1:Below w.heap.size w ((w.alloc (.cells #[.slice Aa0 l0.length ca0] 24)).alloc (.cells #[.int .i64 nn1, .slice Av1 bb1.length cv1, .slice Aw1 ll1.length cw1] 28)):=b0.alloc (b0).size _
 replace v_aD:=Lib.hid (Nat.lt_of_lt_of_le v_aD.out (Below.size (Below.alloc (Below.refl _ _) (Nat.le_refl _) (.cells #[.int .i64 nn1, .slice Av1 bb1.length cv1, .slice Aw1 ll1.length cw1] 28))))
 have v_aV:=Lib.hid (show w.heap.size+1 < ((w.alloc (.cells #[.slice Aa0 l0.length ca0] 24)).alloc (.cells #[.int .i64 nn1, .slice Av1 bb1.length cv1, .slice Aw1 ll1.length cw1] 28)).heap.size by simp)
 replace K_aD:=K_aD.alloc (.cells #[.int .i64 nn1, .slice Av1 bb1.length cv1, .slice Aw1 ll1.length cw1] 28)
 have K_aV:K3 ((w.alloc (.cells #[.slice Aa0 l0.length ca0] 24)).alloc (.cells #[.int .i64 nn1, .slice Av1 bb1.length cv1, .slice Aw1 ll1.length cw1] 28)) (w.heap.size+1) (.int .i64 nn1) (.slice Av1 bb1.length cv1) (.slice Aw1 ll1.length cw1):=⟨by simp [go_sem],by simp [go_sem],by simp [go_sem]⟩
 have c_aD_0:=K_aD.c0
 go_wp2_with fail
 refine (szD_law hA0 b1 ok0 (by omega) (by omega)).mono ?_
 rintro e W2 ⟨z2,rfl,bel2,hr2⟩
 have b2:=below_step bel2 b1
 replace v_aD:=Lib.hid (Nat.lt_of_lt_of_le v_aD.out bel2.size)
 replace v_aV:=Lib.hid (Nat.lt_of_lt_of_le v_aV.out bel2.size)
 replace c_aD_0:=cell_later bel2 c_aD_0
 replace K_aD:=K_aD.later bel2
 replace K_aV:=K_aV.later bel2
 clear bel2
 clear b1
 rcases hr2 with rfl|⟨q2,y2,hs0⟩
 ·have HB:=Lib.hid b2
  clear hA0 ok0 hA2 ok2
  go_wp2
  go_ret
  exact ⟨rfl,HB.out⟩
 have ok_0:=Lib.hid (okD_of ok0 hs0 HD0.out)
 clear c_aD_0
 have c_aV_0:=K_aV.c0
 have c_aV_1:=K_aV.c1
 have c_aV_2:=K_aV.c2
 go_wp2_with fail
 refine (szV_law HV1.out.1 HV1.out.2 rfl b2 q2 (by omega)).mono ?_
 rintro e W3 ⟨z3,rfl,bel3,hr3⟩
 have b3:=below_step bel3 b2
 replace v_aD:=Lib.hid (Nat.lt_of_lt_of_le v_aD.out bel3.size)
 replace v_aV:=Lib.hid (Nat.lt_of_lt_of_le v_aV.out bel3.size)
 replace c_aV_0:=cell_later bel3 c_aV_0
 replace c_aV_1:=cell_later bel3 c_aV_1
 replace c_aV_2:=cell_later bel3 c_aV_2
 replace K_aD:=K_aD.later bel3
 replace K_aV:=K_aV.later bel3
 clear bel3
 clear b2
 rcases hr3 with rfl|⟨q3,y3,hs1⟩
 ·have HB:=Lib.hid b3
  clear hA0 ok0 hA2 ok2
  go_wp2
  go_ret
  exact ⟨rfl,HB.out⟩
 clear c_aV_0 c_aV_1 c_aV_2
 go_wp2_with fail
 refine (szC_law hA2 ok2 HC2.out b3 q3 (by omega)).mono ?_
 rintro e W4 ⟨z4,rfl,bel4,hr4⟩
 have b4:=below_step bel4 b3
 replace v_aD:=Lib.hid (Nat.lt_of_lt_of_le v_aD.out bel4.size)
 replace v_aV:=Lib.hid (Nat.lt_of_lt_of_le v_aV.out bel4.size)
 replace K_aD:=K_aD.later bel4
 replace K_aV:=K_aV.later bel4
 clear bel4
 clear b3
 rcases hr4 with rfl|⟨q4,y4,hs2⟩
 ·have HB:=Lib.hid b4
  clear hA0 ok0 hA2 ok2
  go_wp2
  go_ret
  exact ⟨rfl,HB.out⟩
 have c_aD_0:=K_aD.c0
 have c_aV_0:=K_aV.c0
 have c_aV_1:=K_aV.c1
 have c_aV_2:=K_aV.c2
 go_upto_region 11 with fail
 go_cut [8,9] (fun s8 s9 wx=> ∃(bq:Nat) (A1:Option Addr) (c1:Nat) (A2:Option Addr) (c2 lo hi:Nat),s8= .pointer (some ⟨bq,0,none⟩)∧s9= .bool FB∧B3 wx bq (.int .i64 FX.n) (.slice A1 FX.b.length c1) (.slice A2 FX.items.length c2)∧OwV FX lo hi wx (.agg #[.int .i64 FX.n, .slice A1 FX.b.length c1, .slice A2 FX.items.length c2])∧W4.heap.size≤lo∧True∧hi≤wx.heap.size∧W4.heap.size≤bq∧Below W4.heap.size W4 wx)
 case first=>
  have bq:=(Below.refl W4.heap.size W4).drew
  go_wp2_with fail
  refine wp_region_held_drew (S:=(fun w9=> w9.cell? ⟨w.heap.size,0,none⟩=some (.slice Aa0 l0.length ca0)∧w9.cell? ⟨w.heap.size+1,0,none⟩=some (.int .i64 nn1)∧w9.cell? ⟨w.heap.size+1,1,none⟩=some (.slice Av1 bb1.length cv1)∧w9.cell? ⟨w.heap.size+1,2,none⟩=some (.slice Aw1 ll1.length cw1))) (by kernel_rfl) ?_ (fun hHeld=> ?_)
  ·(try dsimp only);exact ⟨c_aD_0,c_aV_0,c_aV_1,c_aV_2⟩
  refine rgTake 0 (some 36) hHeld _ ?_;try go_frame
  refine rgTake 2 (some 38) hHeld _ ?_;try go_frame
  refine rgTake 4 (some 40) hHeld _ ?_;try go_frame
  refine rgTwo 1 10 (fun K hK=> ?_) (fun K hK=> ?_)
  ·go_simp
   refine (toD_law hA0 (below_step bq b4) hs0 HD0.out).mono ?_;rintro e wq ⟨t0,rfl,own_t0,bel⟩;replace bq:=below_step bel bq;(try have hgr:=zB.lt);(try have zB:=zB.later bel);obtain ⟨A_t0,c_t0,rfl⟩:=own_t0.slice
   (try go_wp2_with fail)
   refine hK.out _ _ ?_ (fun hHeld=> ?_)
   ·(try dsimp only);exact ⟨cell_later bq c_aD_0,cell_later bq c_aV_0,cell_later bq c_aV_1,cell_later bq c_aV_2⟩
   clear hK K
   try go_frame
   refine rgTwo 3 10 (fun K hK=> ?_) (fun K hK=> ?_)
   ·go_simp
    refine (toV_law HV1.out.1 HV1.out.2 rfl (below_step bq b4) hs1).mono ?_;rintro e wq ⟨u_t1,rfl,own_t1,bel⟩;replace bq:=below_step bel bq;replace own_t0:=own_t0.keep (Out.of_below bel 0 0) (.inr (Nat.zero_le _));(try have hgr:=zB.lt);(try have zB:=zB.later bel);obtain ⟨Ap_t1,cp_t1,Aq_t1,cq_t1,rfl⟩:=own_t1.agg
    (try go_wp2_with fail)
    refine hK.out _ _ ?_ (fun hHeld=> ?_)
    ·(try dsimp only);exact ⟨cell_later bq c_aD_0,cell_later bq c_aV_0,cell_later bq c_aV_1,cell_later bq c_aV_2⟩
    clear hK K
    try go_frame
    refine rgTwo 5 10 (fun K hK=> ?_) (fun K hK=> ?_)
    ·go_simp
     refine (toC_law hA2 HC2.out (below_step bq b4) hs2).mono ?_;rintro e wq ⟨t2,rfl,own_t2,bel⟩;replace bq:=below_step bel bq;replace own_t0:=own_t0.keep (Out.of_below bel 0 0) (.inr (Nat.zero_le _));replace own_t1:=own_t1.keep (Out.of_below bel 0 0) (.inr (Nat.zero_le _));(try have hgr:=zB.lt);(try have zB:=zB.later bel);obtain ⟨A_t2,c_t2,rfl⟩:=own_t2.slice
     (try go_wp2_with fail)
     refine hK.out _ _ ?_ (fun hHeld=> ?_)
     ·(try dsimp only);exact ⟨cell_later bq c_aD_0,cell_later bq c_aV_0,cell_later bq c_aV_1,cell_later bq c_aV_2⟩
     clear hK K
     try go_frame
     refine rgTwo 6 10 (fun K hK=> ?_) (fun K hK=> ?_)
     ·go_simp
      refine (specApply_law own_t0 ok_0.out own_t1 own_t2 hs1 hs2 HF.out.1).mono ?_;rintro e wq ⟨vr,rfl,own_r,bel⟩;have hlo:=bq.size;replace bq:=below_step bel bq;(try have hgr:=zB.lt);(try have zB:=zB.later bel);obtain ⟨Ar1,cr1,Ar2,cr2,rfl⟩:=own_r.agg
      (try go_wp2_with fail)
      refine hK.out _ _ ?_ (fun hHeld=> ?_)
      ·(try dsimp only);exact ⟨cell_later bq c_aD_0,cell_later bq c_aV_0,cell_later bq c_aV_1,cell_later bq c_aV_2⟩
      clear hK K
      try go_frame
      refine rgTake 7 (some 35) hHeld _ ?_;try go_frame
      refine rgTake 8 (some 43) hHeld _ ?_;try go_frame
      refine rgTake 9 (some 44) hHeld _ ?_;try go_frame
      refine rgStep 10 (fun K hK=> ?_)
      (try go_simp)
      have hge:=bq.size;first|(have zB:=b3_zero bq;replace bq:=bq.alloc bq.size zO;(try have own_t0:=own_t0.bal zO);(try have own_t1:=own_t1.bal zO);(try have own_t2:=own_t2.bal zO);(try have own_r:=own_r.bal zO);generalize wq.alloc zO=wa at*)|(have zB:B3 (W4.alloc zO).drew W4.heap.size (.int .i64 0) (.slice none 0 0) (.slice none 0 0):=b3_zero bq;replace bq:Below W4.heap.size W4 (W4.alloc zO).drew:=bq.alloc bq.size zO;generalize (W4.alloc zO).drew=wa at*)
      refine hK.out _ _ ?_ (fun hHeld=> ?_)
      ·(try dsimp only);exact ⟨cell_later bq c_aD_0,cell_later bq c_aV_0,cell_later bq c_aV_1,cell_later bq c_aV_2⟩
      clear hK K
      try go_frame
      refine rgStep 11 (fun K hK=> ?_)
      (try go_simp)
      replace own_r:=own_r.set3 (by first|exact .inr hgr|exact .inl (Nat.le_refl _)) (.int .i64 FX.n) (.slice Ar1 FX.b.length cr1) (.slice Ar2 FX.items.length cr2);replace bq:=below_set3 bq hge (.int .i64 FX.n) (.slice Ar1 FX.b.length cr1) (.slice Ar2 FX.items.length cr2);have zB0:=zB;obtain ⟨zl,z0,z1,z2,y0,y1,y2⟩:=zB0;go_simp;replace zB:=zB.set (.int .i64 FX.n) (.slice Ar1 FX.b.length cr1) (.slice Ar2 FX.items.length cr2)
      refine hK.out _ _ ?_ (fun hHeld=> ?_)
      ·(try dsimp only);exact ⟨cell_later bq c_aD_0,cell_later bq c_aV_0,cell_later bq c_aV_1,cell_later bq c_aV_2⟩
      clear hK K
      try go_frame
      refine rgTake 12 (some 9) hHeld _ ?_;try go_frame
      refine wpAnyH_done (by kernel_rfl) ?_ _
      go_wp2_with fail
      go_meet
      exact ⟨_,_,_,_,_,_,_,rfl,rfl,zB,own_r,hlo,trivial,(by first|exact Nat.le_of_lt zB.lt|simp),hge,bq⟩
     ·(try go_simp)
      have hge:=bq.size;first|(have zB:=b3_zero bq;replace bq:=bq.alloc bq.size zO;(try have own_t0:=own_t0.bal zO);(try have own_t1:=own_t1.bal zO);(try have own_t2:=own_t2.bal zO);(try have own_r:=own_r.bal zO);generalize wq.alloc zO=wa at*)|(have zB:B3 (W4.alloc zO).drew W4.heap.size (.int .i64 0) (.slice none 0 0) (.slice none 0 0):=b3_zero bq;replace bq:Below W4.heap.size W4 (W4.alloc zO).drew:=bq.alloc bq.size zO;generalize (W4.alloc zO).drew=wa at*)
      refine hK.out _ _ ?_ (fun hHeld=> ?_)
      ·(try dsimp only);exact ⟨cell_later bq c_aD_0,cell_later bq c_aV_0,cell_later bq c_aV_1,cell_later bq c_aV_2⟩
      clear hK K
      try go_frame
      refine rgStep 6 (fun K hK=> ?_)
      go_simp
      refine (specApply_law own_t0 ok_0.out own_t1 own_t2 hs1 hs2 HF.out.1).mono ?_;rintro e wq ⟨vr,rfl,own_r,bel⟩;have hlo:=bq.size;replace bq:=below_step bel bq;(try have hgr:=zB.lt);(try have zB:=zB.later bel);obtain ⟨Ar1,cr1,Ar2,cr2,rfl⟩:=own_r.agg
      (try go_wp2_with fail)
      refine hK.out _ _ ?_ (fun hHeld=> ?_)
      ·(try dsimp only);exact ⟨cell_later bq c_aD_0,cell_later bq c_aV_0,cell_later bq c_aV_1,cell_later bq c_aV_2⟩
      clear hK K
      try go_frame
      refine rgTake 7 (some 35) hHeld _ ?_;try go_frame
      refine rgTake 8 (some 43) hHeld _ ?_;try go_frame
      refine rgTake 9 (some 44) hHeld _ ?_;try go_frame
      refine rgStep 11 (fun K hK=> ?_)
      (try go_simp)
      replace own_r:=own_r.set3 (by first|exact .inr hgr|exact .inl (Nat.le_refl _)) (.int .i64 FX.n) (.slice Ar1 FX.b.length cr1) (.slice Ar2 FX.items.length cr2);replace bq:=below_set3 bq hge (.int .i64 FX.n) (.slice Ar1 FX.b.length cr1) (.slice Ar2 FX.items.length cr2);have zB0:=zB;obtain ⟨zl,z0,z1,z2,y0,y1,y2⟩:=zB0;go_simp;replace zB:=zB.set (.int .i64 FX.n) (.slice Ar1 FX.b.length cr1) (.slice Ar2 FX.items.length cr2)
      refine hK.out _ _ ?_ (fun hHeld=> ?_)
      ·(try dsimp only);exact ⟨cell_later bq c_aD_0,cell_later bq c_aV_0,cell_later bq c_aV_1,cell_later bq c_aV_2⟩
      clear hK K
      try go_frame
      refine rgTake 12 (some 9) hHeld _ ?_;try go_frame
      refine wpAnyH_done (by kernel_rfl) ?_ _
      go_wp2_with fail
      go_meet
      exact ⟨_,_,_,_,_,_,_,rfl,rfl,zB,own_r,hlo,trivial,(by first|exact Nat.le_of_lt zB.lt|simp),hge,bq⟩
    ·(try go_simp)
     have hge:=bq.size;first|(have zB:=b3_zero bq;replace bq:=bq.alloc bq.size zO;(try have own_t0:=own_t0.bal zO);(try have own_t1:=own_t1.bal zO);(try have own_t2:=own_t2.bal zO);(try have own_r:=own_r.bal zO);generalize wq.alloc zO=wa at*)|(have zB:B3 (W4.alloc zO).drew W4.heap.size (.int .i64 0) (.slice none 0 0) (.slice none 0 0):=b3_zero bq;replace bq:Below W4.heap.size W4 (W4.alloc zO).drew:=bq.alloc bq.size zO;generalize (W4.alloc zO).drew=wa at*)
     refine hK.out _ _ ?_ (fun hHeld=> ?_)
     ·(try dsimp only);exact ⟨cell_later bq c_aD_0,cell_later bq c_aV_0,cell_later bq c_aV_1,cell_later bq c_aV_2⟩
     clear hK K
     try go_frame
     refine rgStep 5 (fun K hK=> ?_)
     go_simp
     refine (toC_law hA2 HC2.out (below_step bq b4) hs2).mono ?_;rintro e wq ⟨t2,rfl,own_t2,bel⟩;replace bq:=below_step bel bq;replace own_t0:=own_t0.keep (Out.of_below bel 0 0) (.inr (Nat.zero_le _));replace own_t1:=own_t1.keep (Out.of_below bel 0 0) (.inr (Nat.zero_le _));(try have hgr:=zB.lt);(try have zB:=zB.later bel);obtain ⟨A_t2,c_t2,rfl⟩:=own_t2.slice
     (try go_wp2_with fail)
     refine hK.out _ _ ?_ (fun hHeld=> ?_)
     ·(try dsimp only);exact ⟨cell_later bq c_aD_0,cell_later bq c_aV_0,cell_later bq c_aV_1,cell_later bq c_aV_2⟩
     clear hK K
     try go_frame
     refine rgStep 6 (fun K hK=> ?_)
     go_simp
     refine (specApply_law own_t0 ok_0.out own_t1 own_t2 hs1 hs2 HF.out.1).mono ?_;rintro e wq ⟨vr,rfl,own_r,bel⟩;have hlo:=bq.size;replace bq:=below_step bel bq;(try have hgr:=zB.lt);(try have zB:=zB.later bel);obtain ⟨Ar1,cr1,Ar2,cr2,rfl⟩:=own_r.agg
     (try go_wp2_with fail)
     refine hK.out _ _ ?_ (fun hHeld=> ?_)
     ·(try dsimp only);exact ⟨cell_later bq c_aD_0,cell_later bq c_aV_0,cell_later bq c_aV_1,cell_later bq c_aV_2⟩
     clear hK K
     try go_frame
     refine rgTake 7 (some 35) hHeld _ ?_;try go_frame
     refine rgTake 8 (some 43) hHeld _ ?_;try go_frame
     refine rgTake 9 (some 44) hHeld _ ?_;try go_frame
     refine rgStep 11 (fun K hK=> ?_)
     (try go_simp)
     replace own_r:=own_r.set3 (by first|exact .inr hgr|exact .inl (Nat.le_refl _)) (.int .i64 FX.n) (.slice Ar1 FX.b.length cr1) (.slice Ar2 FX.items.length cr2);replace bq:=below_set3 bq hge (.int .i64 FX.n) (.slice Ar1 FX.b.length cr1) (.slice Ar2 FX.items.length cr2);have zB0:=zB;obtain ⟨zl,z0,z1,z2,y0,y1,y2⟩:=zB0;go_simp;replace zB:=zB.set (.int .i64 FX.n) (.slice Ar1 FX.b.length cr1) (.slice Ar2 FX.items.length cr2)
     refine hK.out _ _ ?_ (fun hHeld=> ?_)
     ·(try dsimp only);exact ⟨cell_later bq c_aD_0,cell_later bq c_aV_0,cell_later bq c_aV_1,cell_later bq c_aV_2⟩
     clear hK K
     try go_frame
     refine rgTake 12 (some 9) hHeld _ ?_;try go_frame
     refine wpAnyH_done (by kernel_rfl) ?_ _
     go_wp2_with fail
     go_meet
     exact ⟨_,_,_,_,_,_,_,rfl,rfl,zB,own_r,hlo,trivial,(by first|exact Nat.le_of_lt zB.lt|simp),hge,bq⟩
   ·(try go_simp)
    have hge:=bq.size;first|(have zB:=b3_zero bq;replace bq:=bq.alloc bq.size zO;(try have own_t0:=own_t0.bal zO);(try have own_t1:=own_t1.bal zO);(try have own_t2:=own_t2.bal zO);(try have own_r:=own_r.bal zO);generalize wq.alloc zO=wa at*)|(have zB:B3 (W4.alloc zO).drew W4.heap.size (.int .i64 0) (.slice none 0 0) (.slice none 0 0):=b3_zero bq;replace bq:Below W4.heap.size W4 (W4.alloc zO).drew:=bq.alloc bq.size zO;generalize (W4.alloc zO).drew=wa at*)
    refine hK.out _ _ ?_ (fun hHeld=> ?_)
    ·(try dsimp only);exact ⟨cell_later bq c_aD_0,cell_later bq c_aV_0,cell_later bq c_aV_1,cell_later bq c_aV_2⟩
    clear hK K
    try go_frame
    refine rgStep 3 (fun K hK=> ?_)
    go_simp
    refine (toV_law HV1.out.1 HV1.out.2 rfl (below_step bq b4) hs1).mono ?_;rintro e wq ⟨u_t1,rfl,own_t1,bel⟩;replace bq:=below_step bel bq;replace own_t0:=own_t0.keep (Out.of_below bel 0 0) (.inr (Nat.zero_le _));(try have hgr:=zB.lt);(try have zB:=zB.later bel);obtain ⟨Ap_t1,cp_t1,Aq_t1,cq_t1,rfl⟩:=own_t1.agg
    (try go_wp2_with fail)
    refine hK.out _ _ ?_ (fun hHeld=> ?_)
    ·(try dsimp only);exact ⟨cell_later bq c_aD_0,cell_later bq c_aV_0,cell_later bq c_aV_1,cell_later bq c_aV_2⟩
    clear hK K
    try go_frame
    refine rgStep 5 (fun K hK=> ?_)
    go_simp
    refine (toC_law hA2 HC2.out (below_step bq b4) hs2).mono ?_;rintro e wq ⟨t2,rfl,own_t2,bel⟩;replace bq:=below_step bel bq;replace own_t0:=own_t0.keep (Out.of_below bel 0 0) (.inr (Nat.zero_le _));replace own_t1:=own_t1.keep (Out.of_below bel 0 0) (.inr (Nat.zero_le _));(try have hgr:=zB.lt);(try have zB:=zB.later bel);obtain ⟨A_t2,c_t2,rfl⟩:=own_t2.slice
    (try go_wp2_with fail)
    refine hK.out _ _ ?_ (fun hHeld=> ?_)
    ·(try dsimp only);exact ⟨cell_later bq c_aD_0,cell_later bq c_aV_0,cell_later bq c_aV_1,cell_later bq c_aV_2⟩
    clear hK K
    try go_frame
    refine rgStep 6 (fun K hK=> ?_)
    go_simp
    refine (specApply_law own_t0 ok_0.out own_t1 own_t2 hs1 hs2 HF.out.1).mono ?_;rintro e wq ⟨vr,rfl,own_r,bel⟩;have hlo:=bq.size;replace bq:=below_step bel bq;(try have hgr:=zB.lt);(try have zB:=zB.later bel);obtain ⟨Ar1,cr1,Ar2,cr2,rfl⟩:=own_r.agg
    (try go_wp2_with fail)
    refine hK.out _ _ ?_ (fun hHeld=> ?_)
    ·(try dsimp only);exact ⟨cell_later bq c_aD_0,cell_later bq c_aV_0,cell_later bq c_aV_1,cell_later bq c_aV_2⟩
    clear hK K
    try go_frame
    refine rgTake 7 (some 35) hHeld _ ?_;try go_frame
    refine rgTake 8 (some 43) hHeld _ ?_;try go_frame
    refine rgTake 9 (some 44) hHeld _ ?_;try go_frame
    refine rgStep 11 (fun K hK=> ?_)
    (try go_simp)
    replace own_r:=own_r.set3 (by first|exact .inr hgr|exact .inl (Nat.le_refl _)) (.int .i64 FX.n) (.slice Ar1 FX.b.length cr1) (.slice Ar2 FX.items.length cr2);replace bq:=below_set3 bq hge (.int .i64 FX.n) (.slice Ar1 FX.b.length cr1) (.slice Ar2 FX.items.length cr2);have zB0:=zB;obtain ⟨zl,z0,z1,z2,y0,y1,y2⟩:=zB0;go_simp;replace zB:=zB.set (.int .i64 FX.n) (.slice Ar1 FX.b.length cr1) (.slice Ar2 FX.items.length cr2)
    refine hK.out _ _ ?_ (fun hHeld=> ?_)
    ·(try dsimp only);exact ⟨cell_later bq c_aD_0,cell_later bq c_aV_0,cell_later bq c_aV_1,cell_later bq c_aV_2⟩
    clear hK K
    try go_frame
    refine rgTake 12 (some 9) hHeld _ ?_;try go_frame
    refine wpAnyH_done (by kernel_rfl) ?_ _
    go_wp2_with fail
    go_meet
    exact ⟨_,_,_,_,_,_,_,rfl,rfl,zB,own_r,hlo,trivial,(by first|exact Nat.le_of_lt zB.lt|simp),hge,bq⟩
  ·(try go_simp)
   have hge:=bq.size;first|(have zB:=b3_zero bq;replace bq:=bq.alloc bq.size zO;(try have own_t0:=own_t0.bal zO);(try have own_t1:=own_t1.bal zO);(try have own_t2:=own_t2.bal zO);(try have own_r:=own_r.bal zO);generalize wq.alloc zO=wa at*)|(have zB:B3 (W4.alloc zO).drew W4.heap.size (.int .i64 0) (.slice none 0 0) (.slice none 0 0):=b3_zero bq;replace bq:Below W4.heap.size W4 (W4.alloc zO).drew:=bq.alloc bq.size zO;generalize (W4.alloc zO).drew=wa at*)
   refine hK.out _ _ ?_ (fun hHeld=> ?_)
   ·(try dsimp only);exact ⟨cell_later bq c_aD_0,cell_later bq c_aV_0,cell_later bq c_aV_1,cell_later bq c_aV_2⟩
   clear hK K
   try go_frame
   refine rgStep 1 (fun K hK=> ?_)
   go_simp
   refine (toD_law hA0 (below_step bq b4) hs0 HD0.out).mono ?_;rintro e wq ⟨t0,rfl,own_t0,bel⟩;replace bq:=below_step bel bq;(try have hgr:=zB.lt);(try have zB:=zB.later bel);obtain ⟨A_t0,c_t0,rfl⟩:=own_t0.slice
   (try go_wp2_with fail)
   refine hK.out _ _ ?_ (fun hHeld=> ?_)
   ·(try dsimp only);exact ⟨cell_later bq c_aD_0,cell_later bq c_aV_0,cell_later bq c_aV_1,cell_later bq c_aV_2⟩
   clear hK K
   try go_frame
   refine rgStep 3 (fun K hK=> ?_)
   go_simp
   refine (toV_law HV1.out.1 HV1.out.2 rfl (below_step bq b4) hs1).mono ?_;rintro e wq ⟨u_t1,rfl,own_t1,bel⟩;replace bq:=below_step bel bq;replace own_t0:=own_t0.keep (Out.of_below bel 0 0) (.inr (Nat.zero_le _));(try have hgr:=zB.lt);(try have zB:=zB.later bel);obtain ⟨Ap_t1,cp_t1,Aq_t1,cq_t1,rfl⟩:=own_t1.agg
   (try go_wp2_with fail)
   refine hK.out _ _ ?_ (fun hHeld=> ?_)
   ·(try dsimp only);exact ⟨cell_later bq c_aD_0,cell_later bq c_aV_0,cell_later bq c_aV_1,cell_later bq c_aV_2⟩
   clear hK K
   try go_frame
   refine rgStep 5 (fun K hK=> ?_)
   go_simp
   refine (toC_law hA2 HC2.out (below_step bq b4) hs2).mono ?_;rintro e wq ⟨t2,rfl,own_t2,bel⟩;replace bq:=below_step bel bq;replace own_t0:=own_t0.keep (Out.of_below bel 0 0) (.inr (Nat.zero_le _));replace own_t1:=own_t1.keep (Out.of_below bel 0 0) (.inr (Nat.zero_le _));(try have hgr:=zB.lt);(try have zB:=zB.later bel);obtain ⟨A_t2,c_t2,rfl⟩:=own_t2.slice
   (try go_wp2_with fail)
   refine hK.out _ _ ?_ (fun hHeld=> ?_)
   ·(try dsimp only);exact ⟨cell_later bq c_aD_0,cell_later bq c_aV_0,cell_later bq c_aV_1,cell_later bq c_aV_2⟩
   clear hK K
   try go_frame
   refine rgStep 6 (fun K hK=> ?_)
   go_simp
   refine (specApply_law own_t0 ok_0.out own_t1 own_t2 hs1 hs2 HF.out.1).mono ?_;rintro e wq ⟨vr,rfl,own_r,bel⟩;have hlo:=bq.size;replace bq:=below_step bel bq;(try have hgr:=zB.lt);(try have zB:=zB.later bel);obtain ⟨Ar1,cr1,Ar2,cr2,rfl⟩:=own_r.agg
   (try go_wp2_with fail)
   refine hK.out _ _ ?_ (fun hHeld=> ?_)
   ·(try dsimp only);exact ⟨cell_later bq c_aD_0,cell_later bq c_aV_0,cell_later bq c_aV_1,cell_later bq c_aV_2⟩
   clear hK K
   try go_frame
   refine rgTake 7 (some 35) hHeld _ ?_;try go_frame
   refine rgTake 8 (some 43) hHeld _ ?_;try go_frame
   refine rgTake 9 (some 44) hHeld _ ?_;try go_frame
   refine rgStep 11 (fun K hK=> ?_)
   (try go_simp)
   replace own_r:=own_r.set3 (by first|exact .inr hgr|exact .inl (Nat.le_refl _)) (.int .i64 FX.n) (.slice Ar1 FX.b.length cr1) (.slice Ar2 FX.items.length cr2);replace bq:=below_set3 bq hge (.int .i64 FX.n) (.slice Ar1 FX.b.length cr1) (.slice Ar2 FX.items.length cr2);have zB0:=zB;obtain ⟨zl,z0,z1,z2,y0,y1,y2⟩:=zB0;go_simp;replace zB:=zB.set (.int .i64 FX.n) (.slice Ar1 FX.b.length cr1) (.slice Ar2 FX.items.length cr2)
   refine hK.out _ _ ?_ (fun hHeld=> ?_)
   ·(try dsimp only);exact ⟨cell_later bq c_aD_0,cell_later bq c_aV_0,cell_later bq c_aV_1,cell_later bq c_aV_2⟩
   clear hK K
   try go_frame
   refine rgTake 12 (some 9) hHeld _ ?_;try go_frame
   refine wpAnyH_done (by kernel_rfl) ?_ _
   go_wp2_with fail
   go_meet
   exact ⟨_,_,_,_,_,_,_,rfl,rfl,zB,own_r,hlo,trivial,(by first|exact Nat.le_of_lt zB.lt|simp),hge,bq⟩
 obtain ⟨bq_w0,A_w0,c_w0,A2_w0,c2_w0,lo_w0,hi_w0,rfl,rfl,zb_w0,own_w0,hlo_w0,far_w0,hhi_w0,hge_w0,bel5⟩:=hcut
 obtain ⟨W5,hWc⟩:∃W9:World,W9=wc:=⟨_,rfl⟩
 subst hWc
 have b5:=below_step bel5 b4
 have ob_aD_w0:=Lib.hid (Nat.lt_of_lt_of_le v_aD.out hlo_w0)
 replace v_aD:=Lib.hid (Nat.lt_of_lt_of_le v_aD.out bel5.size)
 have ob_aV_w0:=Lib.hid (Nat.lt_of_lt_of_le v_aV.out hlo_w0)
 replace v_aV:=Lib.hid (Nat.lt_of_lt_of_le v_aV.out bel5.size)
 have u_w0:=Lib.hid hhi_w0
 have v_w0:=Lib.hid zb_w0.lt
 have pl_w0:=Lib.hid (Nat.le_trans (b4).size hlo_w0)
 replace c_aD_0:=cell_later bel5 c_aD_0
 replace c_aV_0:=cell_later bel5 c_aV_0
 replace c_aV_1:=cell_later bel5 c_aV_1
 replace c_aV_2:=cell_later bel5 c_aV_2
 replace K_aD:=K_aD.later bel5
 replace K_aV:=K_aV.later bel5
 have K_w0:=zb_w0.k3
 clear zb_w0
 clear c_aD_0 c_aV_0 c_aV_1 c_aV_2
 have c_aD_0:=K_aD.c0
 go_wp2_with fail
 refine (toD_law hA0 b5 hs0 HD0.out).mono ?_
 rintro e W6 ⟨x0,rfl,own_x0,bel6⟩
 have o_w0_x0:=u_w0
 have ob_aD_x0:=v_aD
 have ob_aV_x0:=v_aV
 have ob_w0_x0:=v_w0
 have pl_x0:=Lib.hid (b5).size
 have b6:=below_step bel6 b5
 replace u_w0:=Lib.hid (Nat.le_trans u_w0.out bel6.size)
 replace v_aD:=Lib.hid (Nat.lt_of_lt_of_le v_aD.out bel6.size)
 replace v_aV:=Lib.hid (Nat.lt_of_lt_of_le v_aV.out bel6.size)
 replace v_w0:=Lib.hid (Nat.lt_of_lt_of_le v_w0.out bel6.size)
 have u_x0:=Lib.hid (show W6.heap.size≤W6.heap.size from Nat.le_refl _)
 replace own_w0:=own_w0.keep (Out.of_below bel6 0 0) (.inr (Nat.zero_le _))
 replace c_aD_0:=cell_later bel6 c_aD_0
 replace K_aD:=K_aD.later bel6
 replace K_aV:=K_aV.later bel6
 replace K_w0:=K_w0.later bel6
 clear bel6
 clear b5
 obtain ⟨A_x0,c_x0,rfl⟩:=own_x0.slice
 clear c_aD_0
 have b7:Below w.heap.size w (W6.alloc (.cells #[.slice A_x0 D0.length c_x0] 40)):=b6.alloc (b6).size _
 have or_w0_x0:=u_w0
 replace u_w0:=Lib.hid (Nat.le_trans u_w0.out (Below.size (Below.alloc (Below.refl _ _) (Nat.le_refl _) (.cells #[.slice A_x0 D0.length c_x0] 40))))
 have or_x0_x0:=u_x0
 replace u_x0:=Lib.hid (Nat.le_trans u_x0.out (Below.size (Below.alloc (Below.refl _ _) (Nat.le_refl _) (.cells #[.slice A_x0 D0.length c_x0] 40))))
 replace v_aD:=Lib.hid (Nat.lt_of_lt_of_le v_aD.out (Below.size (Below.alloc (Below.refl _ _) (Nat.le_refl _) (.cells #[.slice A_x0 D0.length c_x0] 40))))
 replace v_aV:=Lib.hid (Nat.lt_of_lt_of_le v_aV.out (Below.size (Below.alloc (Below.refl _ _) (Nat.le_refl _) (.cells #[.slice A_x0 D0.length c_x0] 40))))
 replace v_w0:=Lib.hid (Nat.lt_of_lt_of_le v_w0.out (Below.size (Below.alloc (Below.refl _ _) (Nat.le_refl _) (.cells #[.slice A_x0 D0.length c_x0] 40))))
 have v_x0:=Lib.hid (show W6.heap.size < (W6.alloc (.cells #[.slice A_x0 D0.length c_x0] 40)).heap.size by simp)
 replace K_aD:=K_aD.alloc (.cells #[.slice A_x0 D0.length c_x0] 40)
 replace K_aV:=K_aV.alloc (.cells #[.slice A_x0 D0.length c_x0] 40)
 replace K_w0:=K_w0.alloc (.cells #[.slice A_x0 D0.length c_x0] 40)
 replace own_w0:=own_w0.keep (Out.of_below ((Below.refl _ _).alloc (Nat.le_refl _) (.cells #[.slice A_x0 D0.length c_x0] 40)) 0 0) (.inr (Nat.zero_le _))
 replace own_x0:=own_x0.keep (Out.of_below ((Below.refl _ _).alloc (Nat.le_refl _) (.cells #[.slice A_x0 D0.length c_x0] 40)) 0 0) (.inr (Nat.zero_le _))
 have K_x0:K1 (W6.alloc (.cells #[.slice A_x0 D0.length c_x0] 40)) (W6.heap.size) (.slice A_x0 D0.length c_x0):=⟨by simp [go_sem]⟩
 have c_aV_0:=K_aV.c0
 have c_aV_1:=K_aV.c1
 have c_aV_2:=K_aV.c2
 go_wp2_with fail
 refine (toV_law HV1.out.1 HV1.out.2 rfl b7 hs1).mono ?_
 rintro e W8 ⟨u_x1,rfl,own_x1,bel8⟩
 have o_w0_x1:=u_w0
 have o_x0_x1:=u_x0
 have ob_aD_x1:=v_aD
 have ob_aV_x1:=v_aV
 have ob_w0_x1:=v_w0
 have ob_x0_x1:=v_x0
 have pl_x1:=Lib.hid (b7).size
 have b8:=below_step bel8 b7
 replace u_w0:=Lib.hid (Nat.le_trans u_w0.out bel8.size)
 replace u_x0:=Lib.hid (Nat.le_trans u_x0.out bel8.size)
 replace v_aD:=Lib.hid (Nat.lt_of_lt_of_le v_aD.out bel8.size)
 replace v_aV:=Lib.hid (Nat.lt_of_lt_of_le v_aV.out bel8.size)
 replace v_w0:=Lib.hid (Nat.lt_of_lt_of_le v_w0.out bel8.size)
 replace v_x0:=Lib.hid (Nat.lt_of_lt_of_le v_x0.out bel8.size)
 have u_x1:=Lib.hid (show W8.heap.size≤W8.heap.size from Nat.le_refl _)
 replace own_w0:=own_w0.keep (Out.of_below bel8 0 0) (.inr (Nat.zero_le _))
 replace own_x0:=own_x0.keep (Out.of_below bel8 0 0) (.inr (Nat.zero_le _))
 replace c_aV_0:=cell_later bel8 c_aV_0
 replace c_aV_1:=cell_later bel8 c_aV_1
 replace c_aV_2:=cell_later bel8 c_aV_2
 replace K_aD:=K_aD.later bel8
 replace K_aV:=K_aV.later bel8
 replace K_w0:=K_w0.later bel8
 replace K_x0:=K_x0.later bel8
 clear bel8
 clear b7
 obtain ⟨Ap_x1,cp_x1,Aq_x1,cq_x1,rfl⟩:=own_x1.agg
 clear c_aV_0 c_aV_1 c_aV_2
 have b9:Below w.heap.size w (W8.alloc (.cells #[.int .i64 X1.n, .slice Ap_x1 X1.b.length cp_x1, .slice Aq_x1 X1.items.length cq_x1] 35)):=b8.alloc (b8).size _
 have or_w0_x1:=u_w0
 replace u_w0:=Lib.hid (Nat.le_trans u_w0.out (Below.size (Below.alloc (Below.refl _ _) (Nat.le_refl _) (.cells #[.int .i64 X1.n, .slice Ap_x1 X1.b.length cp_x1, .slice Aq_x1 X1.items.length cq_x1] 35))))
 have or_x0_x1:=u_x0
 replace u_x0:=Lib.hid (Nat.le_trans u_x0.out (Below.size (Below.alloc (Below.refl _ _) (Nat.le_refl _) (.cells #[.int .i64 X1.n, .slice Ap_x1 X1.b.length cp_x1, .slice Aq_x1 X1.items.length cq_x1] 35))))
 have or_x1_x1:=u_x1
 replace u_x1:=Lib.hid (Nat.le_trans u_x1.out (Below.size (Below.alloc (Below.refl _ _) (Nat.le_refl _) (.cells #[.int .i64 X1.n, .slice Ap_x1 X1.b.length cp_x1, .slice Aq_x1 X1.items.length cq_x1] 35))))
 replace v_aD:=Lib.hid (Nat.lt_of_lt_of_le v_aD.out (Below.size (Below.alloc (Below.refl _ _) (Nat.le_refl _) (.cells #[.int .i64 X1.n, .slice Ap_x1 X1.b.length cp_x1, .slice Aq_x1 X1.items.length cq_x1] 35))))
 replace v_aV:=Lib.hid (Nat.lt_of_lt_of_le v_aV.out (Below.size (Below.alloc (Below.refl _ _) (Nat.le_refl _) (.cells #[.int .i64 X1.n, .slice Ap_x1 X1.b.length cp_x1, .slice Aq_x1 X1.items.length cq_x1] 35))))
 replace v_w0:=Lib.hid (Nat.lt_of_lt_of_le v_w0.out (Below.size (Below.alloc (Below.refl _ _) (Nat.le_refl _) (.cells #[.int .i64 X1.n, .slice Ap_x1 X1.b.length cp_x1, .slice Aq_x1 X1.items.length cq_x1] 35))))
 replace v_x0:=Lib.hid (Nat.lt_of_lt_of_le v_x0.out (Below.size (Below.alloc (Below.refl _ _) (Nat.le_refl _) (.cells #[.int .i64 X1.n, .slice Ap_x1 X1.b.length cp_x1, .slice Aq_x1 X1.items.length cq_x1] 35))))
 have v_x1:=Lib.hid (show W8.heap.size < (W8.alloc (.cells #[.int .i64 X1.n, .slice Ap_x1 X1.b.length cp_x1, .slice Aq_x1 X1.items.length cq_x1] 35)).heap.size by simp)
 replace K_aD:=K_aD.alloc (.cells #[.int .i64 X1.n, .slice Ap_x1 X1.b.length cp_x1, .slice Aq_x1 X1.items.length cq_x1] 35)
 replace K_aV:=K_aV.alloc (.cells #[.int .i64 X1.n, .slice Ap_x1 X1.b.length cp_x1, .slice Aq_x1 X1.items.length cq_x1] 35)
 replace K_w0:=K_w0.alloc (.cells #[.int .i64 X1.n, .slice Ap_x1 X1.b.length cp_x1, .slice Aq_x1 X1.items.length cq_x1] 35)
 replace K_x0:=K_x0.alloc (.cells #[.int .i64 X1.n, .slice Ap_x1 X1.b.length cp_x1, .slice Aq_x1 X1.items.length cq_x1] 35)
 replace own_w0:=own_w0.keep (Out.of_below ((Below.refl _ _).alloc (Nat.le_refl _) (.cells #[.int .i64 X1.n, .slice Ap_x1 X1.b.length cp_x1, .slice Aq_x1 X1.items.length cq_x1] 35)) 0 0) (.inr (Nat.zero_le _))
 replace own_x0:=own_x0.keep (Out.of_below ((Below.refl _ _).alloc (Nat.le_refl _) (.cells #[.int .i64 X1.n, .slice Ap_x1 X1.b.length cp_x1, .slice Aq_x1 X1.items.length cq_x1] 35)) 0 0) (.inr (Nat.zero_le _))
 replace own_x1:=own_x1.keep (Out.of_below ((Below.refl _ _).alloc (Nat.le_refl _) (.cells #[.int .i64 X1.n, .slice Ap_x1 X1.b.length cp_x1, .slice Aq_x1 X1.items.length cq_x1] 35)) 0 0) (.inr (Nat.zero_le _))
 have K_x1:K3 (W8.alloc (.cells #[.int .i64 X1.n, .slice Ap_x1 X1.b.length cp_x1, .slice Aq_x1 X1.items.length cq_x1] 35)) (W8.heap.size) (.int .i64 X1.n) (.slice Ap_x1 X1.b.length cp_x1) (.slice Aq_x1 X1.items.length cq_x1):=⟨by simp [go_sem],by simp [go_sem],by simp [go_sem]⟩
 go_wp2_with fail
 refine (toC_law hA2 HC2.out b9 hs2).mono ?_
 rintro e W10 ⟨x2,rfl,own_x2,bel10⟩
 have o_w0_x2:=u_w0
 have o_x0_x2:=u_x0
 have o_x1_x2:=u_x1
 have ob_aD_x2:=v_aD
 have ob_aV_x2:=v_aV
 have ob_w0_x2:=v_w0
 have ob_x0_x2:=v_x0
 have ob_x1_x2:=v_x1
 have pl_x2:=Lib.hid (b9).size
 have b10:=below_step bel10 b9
 replace u_w0:=Lib.hid (Nat.le_trans u_w0.out bel10.size)
 replace u_x0:=Lib.hid (Nat.le_trans u_x0.out bel10.size)
 replace u_x1:=Lib.hid (Nat.le_trans u_x1.out bel10.size)
 replace v_aD:=Lib.hid (Nat.lt_of_lt_of_le v_aD.out bel10.size)
 replace v_aV:=Lib.hid (Nat.lt_of_lt_of_le v_aV.out bel10.size)
 replace v_w0:=Lib.hid (Nat.lt_of_lt_of_le v_w0.out bel10.size)
 replace v_x0:=Lib.hid (Nat.lt_of_lt_of_le v_x0.out bel10.size)
 replace v_x1:=Lib.hid (Nat.lt_of_lt_of_le v_x1.out bel10.size)
 have u_x2:=Lib.hid (show W10.heap.size≤W10.heap.size from Nat.le_refl _)
 replace own_w0:=own_w0.keep (Out.of_below bel10 0 0) (.inr (Nat.zero_le _))
 replace own_x0:=own_x0.keep (Out.of_below bel10 0 0) (.inr (Nat.zero_le _))
 replace own_x1:=own_x1.keep (Out.of_below bel10 0 0) (.inr (Nat.zero_le _))
 replace K_aD:=K_aD.later bel10
 replace K_aV:=K_aV.later bel10
 replace K_w0:=K_w0.later bel10
 replace K_x0:=K_x0.later bel10
 replace K_x1:=K_x1.later bel10
 clear bel10
 clear b9
 obtain ⟨A_x2,c_x2,rfl⟩:=own_x2.slice
 have c_x0_0:=K_x0.c0
 have c_x1_0:=K_x1.c0
 have c_x1_1:=K_x1.c1
 have c_x1_2:=K_x1.c2
 go_upto_region 15 with fail
 go_cut [13,14] (fun s13 s14 wx=> ∃(bq:Nat) (A1:Option Addr) (c1:Nat) (A2:Option Addr) (c2 lo hi:Nat),s13= .pointer (some ⟨bq,0,none⟩)∧s14= .bool FB∧B3 wx bq (.int .i64 FX.n) (.slice A1 FX.b.length c1) (.slice A2 FX.items.length c2)∧OwV FX lo hi wx (.agg #[.int .i64 FX.n, .slice A1 FX.b.length c1, .slice A2 FX.items.length c2])∧W10.heap.size≤lo∧hi≤bq∧hi≤wx.heap.size∧W10.heap.size≤bq∧Below W10.heap.size W10 wx)
 case first=>
  have bq:=Below.refl W10.heap.size W10
  go_wp2_with fail
  refine (implApply_law own_x0 ok_0.out own_x1 own_x2 hs1 hs2 HF.out.1 HTab.out (below_step bq b10)).mono ?_
  rintro e wq ⟨vr,rfl,own_r,bel⟩
  have hlo:=bq.size
  replace bq:=below_step bel bq
  obtain ⟨Ar1,cr1,Ar2,cr2,rfl⟩:=own_r.agg
  have hw:=bel.size
  have zB:=b3_new bq (.int .i64 FX.n) (.slice Ar1 FX.b.length cr1) (.slice Ar2 FX.items.length cr2) 35
  replace own_r:=own_r.bal (.cells #[.int .i64 FX.n, .slice Ar1 FX.b.length cr1, .slice Ar2 FX.items.length cr2] 35)
  have hge:=bq.size
  replace bq:=bq.alloc bq.size (.cells #[.int .i64 FX.n, .slice Ar1 FX.b.length cr1, .slice Ar2 FX.items.length cr2] 35)
  go_wp2_with fail
  go_meet
  exact ⟨_,_,_,_,_,_,_,rfl,rfl,zB,own_r,hlo,Nat.le_refl _,Nat.le_of_lt zB.lt,hge,bq⟩
 obtain ⟨bq_g0,A_g0,c_g0,A2_g0,c2_g0,lo_g0,hi_g0,rfl,rfl,zb_g0,own_g0,hlo_g0,far_g0,hhi_g0,hge_g0,bel11⟩:=hcut
 obtain ⟨W11,hWc⟩:∃W9:World,W9=wc:=⟨_,rfl⟩
 subst hWc
 have b11:=below_step bel11 b10
 have o_w0_g0:=Lib.hid (Nat.le_trans u_w0.out hlo_g0)
 have or_w0_g0:=Lib.hid (Nat.le_trans u_w0.out hge_g0)
 replace u_w0:=Lib.hid (Nat.le_trans u_w0.out bel11.size)
 have o_x0_g0:=Lib.hid (Nat.le_trans u_x0.out hlo_g0)
 have or_x0_g0:=Lib.hid (Nat.le_trans u_x0.out hge_g0)
 replace u_x0:=Lib.hid (Nat.le_trans u_x0.out bel11.size)
 have o_x1_g0:=Lib.hid (Nat.le_trans u_x1.out hlo_g0)
 have or_x1_g0:=Lib.hid (Nat.le_trans u_x1.out hge_g0)
 replace u_x1:=Lib.hid (Nat.le_trans u_x1.out bel11.size)
 have o_x2_g0:=Lib.hid (Nat.le_trans u_x2.out hlo_g0)
 have or_x2_g0:=Lib.hid (Nat.le_trans u_x2.out hge_g0)
 replace u_x2:=Lib.hid (Nat.le_trans u_x2.out bel11.size)
 have ob_aD_g0:=Lib.hid (Nat.lt_of_lt_of_le v_aD.out hlo_g0)
 replace v_aD:=Lib.hid (Nat.lt_of_lt_of_le v_aD.out bel11.size)
 have ob_aV_g0:=Lib.hid (Nat.lt_of_lt_of_le v_aV.out hlo_g0)
 replace v_aV:=Lib.hid (Nat.lt_of_lt_of_le v_aV.out bel11.size)
 have ob_w0_g0:=Lib.hid (Nat.lt_of_lt_of_le v_w0.out hlo_g0)
 replace v_w0:=Lib.hid (Nat.lt_of_lt_of_le v_w0.out bel11.size)
 have ob_x0_g0:=Lib.hid (Nat.lt_of_lt_of_le v_x0.out hlo_g0)
 replace v_x0:=Lib.hid (Nat.lt_of_lt_of_le v_x0.out bel11.size)
 have ob_x1_g0:=Lib.hid (Nat.lt_of_lt_of_le v_x1.out hlo_g0)
 replace v_x1:=Lib.hid (Nat.lt_of_lt_of_le v_x1.out bel11.size)
 have u_g0:=Lib.hid hhi_g0
 have v_g0:=Lib.hid zb_g0.lt
 have pl_g0:=Lib.hid (Nat.le_trans (b10).size hlo_g0)
 replace own_w0:=own_w0.keep (Out.of_below bel11 0 0) (.inr (Nat.zero_le _))
 replace own_x0:=own_x0.keep (Out.of_below bel11 0 0) (.inr (Nat.zero_le _))
 replace own_x1:=own_x1.keep (Out.of_below bel11 0 0) (.inr (Nat.zero_le _))
 replace own_x2:=own_x2.keep (Out.of_below bel11 0 0) (.inr (Nat.zero_le _))
 replace c_x0_0:=cell_later bel11 c_x0_0
 replace c_x1_0:=cell_later bel11 c_x1_0
 replace c_x1_1:=cell_later bel11 c_x1_1
 replace c_x1_2:=cell_later bel11 c_x1_2
 replace K_aD:=K_aD.later bel11
 replace K_aV:=K_aV.later bel11
 replace K_w0:=K_w0.later bel11
 replace K_x0:=K_x0.later bel11
 replace K_x1:=K_x1.later bel11
 have K_g0:=zb_g0.k3
 clear zb_g0
 clear c_x0_0 c_x1_0 c_x1_1 c_x1_2
 have c_w0_0:=K_w0.c0
 have c_w0_1:=K_w0.c1
 have c_w0_2:=K_w0.c2
 have c_g0_0:=K_g0.c0
 have c_g0_1:=K_g0.c1
 have c_g0_2:=K_g0.c2
 go_wp2_with fail
 refine (eqV_law own_g0 own_w0).mono ?_
 rintro e W12 ⟨rfl,bel12⟩
 have b12:=below_step bel12 b11
 replace u_w0:=Lib.hid (Nat.le_trans u_w0.out bel12.size)
 replace u_x0:=Lib.hid (Nat.le_trans u_x0.out bel12.size)
 replace u_x1:=Lib.hid (Nat.le_trans u_x1.out bel12.size)
 replace u_x2:=Lib.hid (Nat.le_trans u_x2.out bel12.size)
 replace u_g0:=Lib.hid (Nat.le_trans u_g0.out bel12.size)
 replace v_aD:=Lib.hid (Nat.lt_of_lt_of_le v_aD.out bel12.size)
 replace v_aV:=Lib.hid (Nat.lt_of_lt_of_le v_aV.out bel12.size)
 replace v_w0:=Lib.hid (Nat.lt_of_lt_of_le v_w0.out bel12.size)
 replace v_x0:=Lib.hid (Nat.lt_of_lt_of_le v_x0.out bel12.size)
 replace v_x1:=Lib.hid (Nat.lt_of_lt_of_le v_x1.out bel12.size)
 replace v_g0:=Lib.hid (Nat.lt_of_lt_of_le v_g0.out bel12.size)
 replace own_w0:=own_w0.keep (Out.of_below bel12 0 0) (.inr (Nat.zero_le _))
 replace own_x0:=own_x0.keep (Out.of_below bel12 0 0) (.inr (Nat.zero_le _))
 replace own_x1:=own_x1.keep (Out.of_below bel12 0 0) (.inr (Nat.zero_le _))
 replace own_x2:=own_x2.keep (Out.of_below bel12 0 0) (.inr (Nat.zero_le _))
 replace own_g0:=own_g0.keep (Out.of_below bel12 0 0) (.inr (Nat.zero_le _))
 replace c_w0_0:=cell_later bel12 c_w0_0
 replace c_w0_1:=cell_later bel12 c_w0_1
 replace c_w0_2:=cell_later bel12 c_w0_2
 replace c_g0_0:=cell_later bel12 c_g0_0
 replace c_g0_1:=cell_later bel12 c_g0_1
 replace c_g0_2:=cell_later bel12 c_g0_2
 replace K_aD:=K_aD.later bel12
 replace K_aV:=K_aV.later bel12
 replace K_w0:=K_w0.later bel12
 replace K_x0:=K_x0.later bel12
 replace K_x1:=K_x1.later bel12
 replace K_g0:=K_g0.later bel12
 clear bel12
 clear b11
 clear c_w0_0 c_w0_1 c_w0_2 c_g0_0 c_g0_1 c_g0_2
 have c_aD_0:=K_aD.c0
 have c_x0_0:=K_x0.c0
 go_wp2_with fail
 replace own_w0:=own_w0.keep (Out.of_below ((Below.refl W12.heap.size W12).drew) 0 0) (.inr (Nat.zero_le _))
 replace own_x0:=own_x0.keep (Out.of_below ((Below.refl W12.heap.size W12).drew) 0 0) (.inr (Nat.zero_le _))
 replace own_x1:=own_x1.keep (Out.of_below ((Below.refl W12.heap.size W12).drew) 0 0) (.inr (Nat.zero_le _))
 replace own_x2:=own_x2.keep (Out.of_below ((Below.refl W12.heap.size W12).drew) 0 0) (.inr (Nat.zero_le _))
 replace own_g0:=own_g0.keep (Out.of_below ((Below.refl W12.heap.size W12).drew) 0 0) (.inr (Nat.zero_le _))
 replace K_aD:=K_aD.drew
 replace K_aV:=K_aV.drew
 replace K_w0:=K_w0.drew
 replace K_x0:=K_x0.drew
 replace K_x1:=K_x1.drew
 replace K_g0:=K_g0.drew
 refine wp_region_held_drew (S:=(fun w9=> w9.cell? ⟨w.heap.size,0,none⟩=some (.slice Aa0 l0.length ca0)∧w9.cell? ⟨W6.heap.size,0,none⟩=some (.slice A_x0 D0.length c_x0))) (by kernel_rfl) ?_ (fun hHeld=> ?_)
 ·(try dsimp only);exact ⟨c_aD_0,c_x0_0⟩
 refine rgTake 0 (some 67) hHeld _ ?_;try go_frame
 refine rgTake 1 (some 68) hHeld _ ?_;try go_frame
 refine rgStep 2 (fun K hK=> ?_)
 go_simp
 refine (toD_law hA0 (b12).drew hs0 HD0.out).mono ?_;rintro e W13 ⟨t3,rfl,own_t3,bel13⟩;have o_w0_t3:=u_w0;have o_x0_t3:=u_x0;have o_x1_t3:=u_x1;have o_x2_t3:=u_x2;have o_g0_t3:=u_g0;have ob_aD_t3:=v_aD;have ob_aV_t3:=v_aV;have ob_w0_t3:=v_w0;have ob_x0_t3:=v_x0;have ob_x1_t3:=v_x1;have ob_g0_t3:=v_g0;have pl_t3:=Lib.hid ((b12).drew).size;have b13:=below_step bel13 (b12).drew;replace u_w0:=Lib.hid (Nat.le_trans u_w0.out bel13.size);replace u_x0:=Lib.hid (Nat.le_trans u_x0.out bel13.size);replace u_x1:=Lib.hid (Nat.le_trans u_x1.out bel13.size);replace u_x2:=Lib.hid (Nat.le_trans u_x2.out bel13.size);replace u_g0:=Lib.hid (Nat.le_trans u_g0.out bel13.size);replace v_aD:=Lib.hid (Nat.lt_of_lt_of_le v_aD.out bel13.size);replace v_aV:=Lib.hid (Nat.lt_of_lt_of_le v_aV.out bel13.size);replace v_w0:=Lib.hid (Nat.lt_of_lt_of_le v_w0.out bel13.size);replace v_x0:=Lib.hid (Nat.lt_of_lt_of_le v_x0.out bel13.size);replace v_x1:=Lib.hid (Nat.lt_of_lt_of_le v_x1.out bel13.size);replace v_g0:=Lib.hid (Nat.lt_of_lt_of_le v_g0.out bel13.size);have u_t3:=Lib.hid (show W13.heap.size≤W13.heap.size from Nat.le_refl _);replace own_w0:=own_w0.keep (Out.of_below bel13 0 0) (.inr (Nat.zero_le _));replace own_x0:=own_x0.keep (Out.of_below bel13 0 0) (.inr (Nat.zero_le _));replace own_x1:=own_x1.keep (Out.of_below bel13 0 0) (.inr (Nat.zero_le _));replace own_x2:=own_x2.keep (Out.of_below bel13 0 0) (.inr (Nat.zero_le _));replace own_g0:=own_g0.keep (Out.of_below bel13 0 0) (.inr (Nat.zero_le _));replace c_aD_0:=cell_later bel13 c_aD_0;replace c_x0_0:=cell_later bel13 c_x0_0;replace K_aD:=K_aD.later bel13;replace K_aV:=K_aV.later bel13;replace K_w0:=K_w0.later bel13;replace K_x0:=K_x0.later bel13;replace K_x1:=K_x1.later bel13;replace K_g0:=K_g0.later bel13;obtain ⟨A_t3,c_t3,rfl⟩:=own_t3.slice
 (try go_wp2_with fail)
 refine hK.out _ _ ?_ (fun hHeld=> ?_)
 ·(try dsimp only);exact ⟨c_aD_0,c_x0_0⟩
 clear hK K
 try go_frame
 refine rgStep 3 (fun K hK=> ?_)
 go_simp
 refine (eqD_law own_x0 own_t3).mono ?_;rintro e W14 ⟨rfl,bel14⟩;have b14:=below_step bel14 b13;replace u_w0:=Lib.hid (Nat.le_trans u_w0.out bel14.size);replace u_x0:=Lib.hid (Nat.le_trans u_x0.out bel14.size);replace u_x1:=Lib.hid (Nat.le_trans u_x1.out bel14.size);replace u_x2:=Lib.hid (Nat.le_trans u_x2.out bel14.size);replace u_g0:=Lib.hid (Nat.le_trans u_g0.out bel14.size);replace u_t3:=Lib.hid (Nat.le_trans u_t3.out bel14.size);replace v_aD:=Lib.hid (Nat.lt_of_lt_of_le v_aD.out bel14.size);replace v_aV:=Lib.hid (Nat.lt_of_lt_of_le v_aV.out bel14.size);replace v_w0:=Lib.hid (Nat.lt_of_lt_of_le v_w0.out bel14.size);replace v_x0:=Lib.hid (Nat.lt_of_lt_of_le v_x0.out bel14.size);replace v_x1:=Lib.hid (Nat.lt_of_lt_of_le v_x1.out bel14.size);replace v_g0:=Lib.hid (Nat.lt_of_lt_of_le v_g0.out bel14.size);replace own_w0:=own_w0.keep (Out.of_below bel14 0 0) (.inr (Nat.zero_le _));replace own_x0:=own_x0.keep (Out.of_below bel14 0 0) (.inr (Nat.zero_le _));replace own_x1:=own_x1.keep (Out.of_below bel14 0 0) (.inr (Nat.zero_le _));replace own_x2:=own_x2.keep (Out.of_below bel14 0 0) (.inr (Nat.zero_le _));replace own_g0:=own_g0.keep (Out.of_below bel14 0 0) (.inr (Nat.zero_le _));replace own_t3:=own_t3.keep (Out.of_below bel14 0 0) (.inr (Nat.zero_le _));replace c_aD_0:=cell_later bel14 c_aD_0;replace c_x0_0:=cell_later bel14 c_x0_0;replace K_aD:=K_aD.later bel14;replace K_aV:=K_aV.later bel14;replace K_w0:=K_w0.later bel14;replace K_x0:=K_x0.later bel14;replace K_x1:=K_x1.later bel14;replace K_g0:=K_g0.later bel14;clear own_t3
 (try go_wp2_with fail)
 refine hK.out _ _ ?_ (fun hHeld=> ?_)
 ·(try dsimp only);exact ⟨c_aD_0,c_x0_0⟩
 clear hK K
 try go_frame
 refine rgTake 4 (some 71) hHeld _ ?_;try go_frame
 refine wpAnyH_done (by kernel_rfl) ?_ _
 clear c_aD_0 c_x0_0
 have c_aV_0:=K_aV.c0
 have c_aV_1:=K_aV.c1
 have c_aV_2:=K_aV.c2
 have c_x1_0:=K_x1.c0
 have c_x1_1:=K_x1.c1
 have c_x1_2:=K_x1.c2
 go_wp2_with fail
 replace own_w0:=own_w0.keep (Out.of_below ((Below.refl W14.heap.size W14).drew) 0 0) (.inr (Nat.zero_le _))
 replace own_x0:=own_x0.keep (Out.of_below ((Below.refl W14.heap.size W14).drew) 0 0) (.inr (Nat.zero_le _))
 replace own_x1:=own_x1.keep (Out.of_below ((Below.refl W14.heap.size W14).drew) 0 0) (.inr (Nat.zero_le _))
 replace own_x2:=own_x2.keep (Out.of_below ((Below.refl W14.heap.size W14).drew) 0 0) (.inr (Nat.zero_le _))
 replace own_g0:=own_g0.keep (Out.of_below ((Below.refl W14.heap.size W14).drew) 0 0) (.inr (Nat.zero_le _))
 replace K_aD:=K_aD.drew
 replace K_aV:=K_aV.drew
 replace K_w0:=K_w0.drew
 replace K_x0:=K_x0.drew
 replace K_x1:=K_x1.drew
 replace K_g0:=K_g0.drew
 refine wp_region_held_drew (S:=(fun w9=> w9.cell? ⟨w.heap.size+1,0,none⟩=some (.int .i64 nn1)∧w9.cell? ⟨w.heap.size+1,1,none⟩=some (.slice Av1 bb1.length cv1)∧w9.cell? ⟨w.heap.size+1,2,none⟩=some (.slice Aw1 ll1.length cw1)∧w9.cell? ⟨W8.heap.size,0,none⟩=some (.int .i64 X1.n)∧w9.cell? ⟨W8.heap.size,1,none⟩=some (.slice Ap_x1 X1.b.length cp_x1)∧w9.cell? ⟨W8.heap.size,2,none⟩=some (.slice Aq_x1 X1.items.length cq_x1))) (by kernel_rfl) ?_ (fun hHeld=> ?_)
 ·(try dsimp only);exact ⟨c_aV_0,c_aV_1,c_aV_2,c_x1_0,c_x1_1,c_x1_2⟩
 refine rgTake 0 (some 72) hHeld _ ?_;try go_frame
 refine rgTake 1 (some 73) hHeld _ ?_;try go_frame
 refine rgStep 2 (fun K hK=> ?_)
 go_simp
 refine (toV_law HV1.out.1 HV1.out.2 rfl (b14).drew hs1).mono ?_;rintro e W15 ⟨u_t4,rfl,own_t4,bel15⟩;have o_w0_t4:=u_w0;have o_x0_t4:=u_x0;have o_x1_t4:=u_x1;have o_x2_t4:=u_x2;have o_g0_t4:=u_g0;have ob_aD_t4:=v_aD;have ob_aV_t4:=v_aV;have ob_w0_t4:=v_w0;have ob_x0_t4:=v_x0;have ob_x1_t4:=v_x1;have ob_g0_t4:=v_g0;have pl_t4:=Lib.hid ((b14).drew).size;have b15:=below_step bel15 (b14).drew;replace u_w0:=Lib.hid (Nat.le_trans u_w0.out bel15.size);replace u_x0:=Lib.hid (Nat.le_trans u_x0.out bel15.size);replace u_x1:=Lib.hid (Nat.le_trans u_x1.out bel15.size);replace u_x2:=Lib.hid (Nat.le_trans u_x2.out bel15.size);replace u_g0:=Lib.hid (Nat.le_trans u_g0.out bel15.size);replace v_aD:=Lib.hid (Nat.lt_of_lt_of_le v_aD.out bel15.size);replace v_aV:=Lib.hid (Nat.lt_of_lt_of_le v_aV.out bel15.size);replace v_w0:=Lib.hid (Nat.lt_of_lt_of_le v_w0.out bel15.size);replace v_x0:=Lib.hid (Nat.lt_of_lt_of_le v_x0.out bel15.size);replace v_x1:=Lib.hid (Nat.lt_of_lt_of_le v_x1.out bel15.size);replace v_g0:=Lib.hid (Nat.lt_of_lt_of_le v_g0.out bel15.size);have u_t4:=Lib.hid (show W15.heap.size≤W15.heap.size from Nat.le_refl _);replace own_w0:=own_w0.keep (Out.of_below bel15 0 0) (.inr (Nat.zero_le _));replace own_x0:=own_x0.keep (Out.of_below bel15 0 0) (.inr (Nat.zero_le _));replace own_x1:=own_x1.keep (Out.of_below bel15 0 0) (.inr (Nat.zero_le _));replace own_x2:=own_x2.keep (Out.of_below bel15 0 0) (.inr (Nat.zero_le _));replace own_g0:=own_g0.keep (Out.of_below bel15 0 0) (.inr (Nat.zero_le _));replace c_aV_0:=cell_later bel15 c_aV_0;replace c_aV_1:=cell_later bel15 c_aV_1;replace c_aV_2:=cell_later bel15 c_aV_2;replace c_x1_0:=cell_later bel15 c_x1_0;replace c_x1_1:=cell_later bel15 c_x1_1;replace c_x1_2:=cell_later bel15 c_x1_2;replace K_aD:=K_aD.later bel15;replace K_aV:=K_aV.later bel15;replace K_w0:=K_w0.later bel15;replace K_x0:=K_x0.later bel15;replace K_x1:=K_x1.later bel15;replace K_g0:=K_g0.later bel15;obtain ⟨Ap_t4,cp_t4,Aq_t4,cq_t4,rfl⟩:=own_t4.agg
 (try go_wp2_with fail)
 refine hK.out _ _ ?_ (fun hHeld=> ?_)
 ·(try dsimp only);exact ⟨c_aV_0,c_aV_1,c_aV_2,c_x1_0,c_x1_1,c_x1_2⟩
 clear hK K
 try go_frame
 refine rgStep 3 (fun K hK=> ?_)
 go_simp
 refine (eqV_law own_x1 own_t4).mono ?_;rintro e W16 ⟨rfl,bel16⟩;have b16:=below_step bel16 b15;replace u_w0:=Lib.hid (Nat.le_trans u_w0.out bel16.size);replace u_x0:=Lib.hid (Nat.le_trans u_x0.out bel16.size);replace u_x1:=Lib.hid (Nat.le_trans u_x1.out bel16.size);replace u_x2:=Lib.hid (Nat.le_trans u_x2.out bel16.size);replace u_g0:=Lib.hid (Nat.le_trans u_g0.out bel16.size);replace u_t4:=Lib.hid (Nat.le_trans u_t4.out bel16.size);replace v_aD:=Lib.hid (Nat.lt_of_lt_of_le v_aD.out bel16.size);replace v_aV:=Lib.hid (Nat.lt_of_lt_of_le v_aV.out bel16.size);replace v_w0:=Lib.hid (Nat.lt_of_lt_of_le v_w0.out bel16.size);replace v_x0:=Lib.hid (Nat.lt_of_lt_of_le v_x0.out bel16.size);replace v_x1:=Lib.hid (Nat.lt_of_lt_of_le v_x1.out bel16.size);replace v_g0:=Lib.hid (Nat.lt_of_lt_of_le v_g0.out bel16.size);replace own_w0:=own_w0.keep (Out.of_below bel16 0 0) (.inr (Nat.zero_le _));replace own_x0:=own_x0.keep (Out.of_below bel16 0 0) (.inr (Nat.zero_le _));replace own_x1:=own_x1.keep (Out.of_below bel16 0 0) (.inr (Nat.zero_le _));replace own_x2:=own_x2.keep (Out.of_below bel16 0 0) (.inr (Nat.zero_le _));replace own_g0:=own_g0.keep (Out.of_below bel16 0 0) (.inr (Nat.zero_le _));replace own_t4:=own_t4.keep (Out.of_below bel16 0 0) (.inr (Nat.zero_le _));replace c_aV_0:=cell_later bel16 c_aV_0;replace c_aV_1:=cell_later bel16 c_aV_1;replace c_aV_2:=cell_later bel16 c_aV_2;replace c_x1_0:=cell_later bel16 c_x1_0;replace c_x1_1:=cell_later bel16 c_x1_1;replace c_x1_2:=cell_later bel16 c_x1_2;replace K_aD:=K_aD.later bel16;replace K_aV:=K_aV.later bel16;replace K_w0:=K_w0.later bel16;replace K_x0:=K_x0.later bel16;replace K_x1:=K_x1.later bel16;replace K_g0:=K_g0.later bel16;clear own_t4
 (try go_wp2_with fail)
 refine hK.out _ _ ?_ (fun hHeld=> ?_)
 ·(try dsimp only);exact ⟨c_aV_0,c_aV_1,c_aV_2,c_x1_0,c_x1_1,c_x1_2⟩
 clear hK K
 try go_frame
 refine rgTake 4 (some 76) hHeld _ ?_;try go_frame
 refine wpAnyH_done (by kernel_rfl) ?_ _
 clear c_aV_0 c_aV_1 c_aV_2 c_x1_0 c_x1_1 c_x1_2
 go_wp2_with fail
 refine (toC_law hA2 HC2.out b16 hs2).mono ?_
 rintro e W17 ⟨t5,rfl,own_t5,bel17⟩
 have o_w0_t5:=u_w0
 have o_x0_t5:=u_x0
 have o_x1_t5:=u_x1
 have o_x2_t5:=u_x2
 have o_g0_t5:=u_g0
 have ob_aD_t5:=v_aD
 have ob_aV_t5:=v_aV
 have ob_w0_t5:=v_w0
 have ob_x0_t5:=v_x0
 have ob_x1_t5:=v_x1
 have ob_g0_t5:=v_g0
 have pl_t5:=Lib.hid (b16).size
 have b17:=below_step bel17 b16
 replace u_w0:=Lib.hid (Nat.le_trans u_w0.out bel17.size)
 replace u_x0:=Lib.hid (Nat.le_trans u_x0.out bel17.size)
 replace u_x1:=Lib.hid (Nat.le_trans u_x1.out bel17.size)
 replace u_x2:=Lib.hid (Nat.le_trans u_x2.out bel17.size)
 replace u_g0:=Lib.hid (Nat.le_trans u_g0.out bel17.size)
 replace v_aD:=Lib.hid (Nat.lt_of_lt_of_le v_aD.out bel17.size)
 replace v_aV:=Lib.hid (Nat.lt_of_lt_of_le v_aV.out bel17.size)
 replace v_w0:=Lib.hid (Nat.lt_of_lt_of_le v_w0.out bel17.size)
 replace v_x0:=Lib.hid (Nat.lt_of_lt_of_le v_x0.out bel17.size)
 replace v_x1:=Lib.hid (Nat.lt_of_lt_of_le v_x1.out bel17.size)
 replace v_g0:=Lib.hid (Nat.lt_of_lt_of_le v_g0.out bel17.size)
 have u_t5:=Lib.hid (show W17.heap.size≤W17.heap.size from Nat.le_refl _)
 replace own_w0:=own_w0.keep (Out.of_below bel17 0 0) (.inr (Nat.zero_le _))
 replace own_x0:=own_x0.keep (Out.of_below bel17 0 0) (.inr (Nat.zero_le _))
 replace own_x1:=own_x1.keep (Out.of_below bel17 0 0) (.inr (Nat.zero_le _))
 replace own_x2:=own_x2.keep (Out.of_below bel17 0 0) (.inr (Nat.zero_le _))
 replace own_g0:=own_g0.keep (Out.of_below bel17 0 0) (.inr (Nat.zero_le _))
 replace K_aD:=K_aD.later bel17
 replace K_aV:=K_aV.later bel17
 replace K_w0:=K_w0.later bel17
 replace K_x0:=K_x0.later bel17
 replace K_x1:=K_x1.later bel17
 replace K_g0:=K_g0.later bel17
 clear bel17
 clear b16
 obtain ⟨A_t5,c_t5,rfl⟩:=own_t5.slice
 go_wp2_with fail
 refine (eqC_law own_x2 own_t5).mono ?_
 rintro e W18 ⟨rfl,bel18⟩
 have b18:=below_step bel18 b17
 replace u_w0:=Lib.hid (Nat.le_trans u_w0.out bel18.size)
 replace u_x0:=Lib.hid (Nat.le_trans u_x0.out bel18.size)
 replace u_x1:=Lib.hid (Nat.le_trans u_x1.out bel18.size)
 replace u_x2:=Lib.hid (Nat.le_trans u_x2.out bel18.size)
 replace u_g0:=Lib.hid (Nat.le_trans u_g0.out bel18.size)
 replace u_t5:=Lib.hid (Nat.le_trans u_t5.out bel18.size)
 replace v_aD:=Lib.hid (Nat.lt_of_lt_of_le v_aD.out bel18.size)
 replace v_aV:=Lib.hid (Nat.lt_of_lt_of_le v_aV.out bel18.size)
 replace v_w0:=Lib.hid (Nat.lt_of_lt_of_le v_w0.out bel18.size)
 replace v_x0:=Lib.hid (Nat.lt_of_lt_of_le v_x0.out bel18.size)
 replace v_x1:=Lib.hid (Nat.lt_of_lt_of_le v_x1.out bel18.size)
 replace v_g0:=Lib.hid (Nat.lt_of_lt_of_le v_g0.out bel18.size)
 replace own_w0:=own_w0.keep (Out.of_below bel18 0 0) (.inr (Nat.zero_le _))
 replace own_x0:=own_x0.keep (Out.of_below bel18 0 0) (.inr (Nat.zero_le _))
 replace own_x1:=own_x1.keep (Out.of_below bel18 0 0) (.inr (Nat.zero_le _))
 replace own_x2:=own_x2.keep (Out.of_below bel18 0 0) (.inr (Nat.zero_le _))
 replace own_g0:=own_g0.keep (Out.of_below bel18 0 0) (.inr (Nat.zero_le _))
 replace own_t5:=own_t5.keep (Out.of_below bel18 0 0) (.inr (Nat.zero_le _))
 replace K_aD:=K_aD.later bel18
 replace K_aV:=K_aV.later bel18
 replace K_w0:=K_w0.later bel18
 replace K_x0:=K_x0.later bel18
 replace K_x1:=K_x1.later bel18
 replace K_g0:=K_g0.later bel18
 clear bel18
 clear b17
 clear own_t5
 have c_x0_0:=K_x0.c0
 go_wp2_with fail
 refine (markD_law own_x0 1 (by omega) (by omega) (by rw [←HD0.out,List.length_map];exact hs0.1) ok_0.out.sm).mono ?_
 rintro e W19 ⟨rr19,rfl,ge19,gk19,le19,out19⟩
 have b19:=Out.below out19 b18 pl_x0.out
 clear own_x0
 clear b18
 replace own_w0:=own_w0.keep out19 (.inl o_w0_x0.out)
 replace own_x1:=own_x1.keep out19 (.inr o_x0_x1.out)
 replace own_x2:=own_x2.keep out19 (.inr o_x0_x2.out)
 replace own_g0:=own_g0.keep out19 (.inr o_x0_g0.out)
 replace c_x0_0:W19.cell? ⟨W6.heap.size,0,none⟩=some (.slice A_x0 D0.length c_x0):=out19.cell (p:=⟨W6.heap.size,0,none⟩) c_x0_0 (.inr or_x0_x0.out)
 replace u_w0:=Lib.hid (Nat.le_trans u_w0.out out19.size)
 replace u_x0:=Lib.hid (Nat.le_trans u_x0.out out19.size)
 replace u_x1:=Lib.hid (Nat.le_trans u_x1.out out19.size)
 replace u_x2:=Lib.hid (Nat.le_trans u_x2.out out19.size)
 replace u_g0:=Lib.hid (Nat.le_trans u_g0.out out19.size)
 replace v_aD:=Lib.hid (Nat.lt_of_lt_of_le v_aD.out out19.size)
 replace v_aV:=Lib.hid (Nat.lt_of_lt_of_le v_aV.out out19.size)
 replace v_w0:=Lib.hid (Nat.lt_of_lt_of_le v_w0.out out19.size)
 replace v_x0:=Lib.hid (Nat.lt_of_lt_of_le v_x0.out out19.size)
 replace v_x1:=Lib.hid (Nat.lt_of_lt_of_le v_x1.out out19.size)
 replace v_g0:=Lib.hid (Nat.lt_of_lt_of_le v_g0.out out19.size)
 replace K_aD:=K_aD.out out19 (.inl ob_aD_x0.out)
 replace K_aV:=K_aV.out out19 (.inl ob_aV_x0.out)
 replace K_w0:=K_w0.out out19 (.inl ob_w0_x0.out)
 replace K_x0:=K_x0.out out19 (.inr or_x0_x0.out)
 replace K_x1:=K_x1.out out19 (.inr or_x0_x1.out)
 replace K_g0:=K_g0.out out19 (.inr or_x0_g0.out)
 clear c_x0_0
 have c_x1_0:=K_x1.c0
 have c_x1_1:=K_x1.c1
 have c_x1_2:=K_x1.c2
 go_wp2_with fail
 refine (markV_law own_x1 rr19 (by omega) (by omega)).mono ?_
 rintro e W20 ⟨rr20,rfl,re20,mk_x1,out20⟩
 obtain ⟨rg20,rl20⟩:(rr19:Int)≤rr20∧rr20≤(rr19:Int)+4194304:=by omega
 clear re20
 have b20:=Out.below out20 b19 pl_x1.out
 clear own_x1
 clear b19
 replace own_w0:=own_w0.keep out20 (.inl o_w0_x1.out)
 replace own_x2:=own_x2.keep out20 (.inr o_x1_x2.out)
 replace own_g0:=own_g0.keep out20 (.inr o_x1_g0.out)
 replace c_x1_0:W20.cell? ⟨W8.heap.size,0,none⟩=some (.int .i64 X1.n):=out20.cell (p:=⟨W8.heap.size,0,none⟩) c_x1_0 (.inr or_x1_x1.out)
 replace c_x1_1:W20.cell? ⟨W8.heap.size,1,none⟩=some (.slice Ap_x1 X1.b.length cp_x1):=out20.cell (p:=⟨W8.heap.size,1,none⟩) c_x1_1 (.inr or_x1_x1.out)
 replace c_x1_2:W20.cell? ⟨W8.heap.size,2,none⟩=some (.slice Aq_x1 X1.items.length cq_x1):=out20.cell (p:=⟨W8.heap.size,2,none⟩) c_x1_2 (.inr or_x1_x1.out)
 replace u_w0:=Lib.hid (Nat.le_trans u_w0.out out20.size)
 replace u_x1:=Lib.hid (Nat.le_trans u_x1.out out20.size)
 replace u_x2:=Lib.hid (Nat.le_trans u_x2.out out20.size)
 replace u_g0:=Lib.hid (Nat.le_trans u_g0.out out20.size)
 replace v_aD:=Lib.hid (Nat.lt_of_lt_of_le v_aD.out out20.size)
 replace v_aV:=Lib.hid (Nat.lt_of_lt_of_le v_aV.out out20.size)
 replace v_w0:=Lib.hid (Nat.lt_of_lt_of_le v_w0.out out20.size)
 replace v_x0:=Lib.hid (Nat.lt_of_lt_of_le v_x0.out out20.size)
 replace v_x1:=Lib.hid (Nat.lt_of_lt_of_le v_x1.out out20.size)
 replace v_g0:=Lib.hid (Nat.lt_of_lt_of_le v_g0.out out20.size)
 replace K_aD:=K_aD.out out20 (.inl ob_aD_x1.out)
 replace K_aV:=K_aV.out out20 (.inl ob_aV_x1.out)
 replace K_w0:=K_w0.out out20 (.inl ob_w0_x1.out)
 replace K_x0:=K_x0.out out20 (.inl ob_x0_x1.out)
 replace K_x1:=K_x1.out out20 (.inr or_x1_x1.out)
 replace K_g0:=K_g0.out out20 (.inr or_x1_g0.out)
 clear mk_x1
 clear c_x1_0 c_x1_1 c_x1_2
 go_wp2_with fail
 refine (markC_law own_x2 rr20 (by omega) (by omega)).mono ?_
 rintro e W21 ⟨rr21,rfl,ge21,le21,mk_x2,out21⟩
 have b21:=Out.below out21 b20 pl_x2.out
 clear own_x2
 clear b20
 replace own_w0:=own_w0.keep out21 (.inl o_w0_x2.out)
 replace own_g0:=own_g0.keep out21 (.inr o_x2_g0.out)
 replace u_w0:=Lib.hid (Nat.le_trans u_w0.out out21.size)
 replace u_x2:=Lib.hid (Nat.le_trans u_x2.out out21.size)
 replace u_g0:=Lib.hid (Nat.le_trans u_g0.out out21.size)
 replace v_aD:=Lib.hid (Nat.lt_of_lt_of_le v_aD.out out21.size)
 replace v_aV:=Lib.hid (Nat.lt_of_lt_of_le v_aV.out out21.size)
 replace v_w0:=Lib.hid (Nat.lt_of_lt_of_le v_w0.out out21.size)
 replace v_x0:=Lib.hid (Nat.lt_of_lt_of_le v_x0.out out21.size)
 replace v_x1:=Lib.hid (Nat.lt_of_lt_of_le v_x1.out out21.size)
 replace v_g0:=Lib.hid (Nat.lt_of_lt_of_le v_g0.out out21.size)
 replace K_aD:=K_aD.out out21 (.inl ob_aD_x2.out)
 replace K_aV:=K_aV.out out21 (.inl ob_aV_x2.out)
 replace K_w0:=K_w0.out out21 (.inl ob_w0_x2.out)
 replace K_x0:=K_x0.out out21 (.inl ob_x0_x2.out)
 replace K_x1:=K_x1.out out21 (.inl ob_x1_x2.out)
 replace K_g0:=K_g0.out out21 (.inr or_x2_g0.out)
 clear mk_x2
 have c_w0_0:=K_w0.c0
 have c_w0_1:=K_w0.c1
 have c_w0_2:=K_w0.c2
 have c_g0_0:=K_g0.c0
 have c_g0_1:=K_g0.c1
 have c_g0_2:=K_g0.c2
 go_wp2_with fail
 refine (eqV_law own_g0 own_w0).mono ?_
 rintro e W22 ⟨rfl,bel22⟩
 have b22:=below_step bel22 b21
 replace u_w0:=Lib.hid (Nat.le_trans u_w0.out bel22.size)
 replace u_g0:=Lib.hid (Nat.le_trans u_g0.out bel22.size)
 replace v_aD:=Lib.hid (Nat.lt_of_lt_of_le v_aD.out bel22.size)
 replace v_aV:=Lib.hid (Nat.lt_of_lt_of_le v_aV.out bel22.size)
 replace v_w0:=Lib.hid (Nat.lt_of_lt_of_le v_w0.out bel22.size)
 replace v_x0:=Lib.hid (Nat.lt_of_lt_of_le v_x0.out bel22.size)
 replace v_x1:=Lib.hid (Nat.lt_of_lt_of_le v_x1.out bel22.size)
 replace v_g0:=Lib.hid (Nat.lt_of_lt_of_le v_g0.out bel22.size)
 replace own_w0:=own_w0.keep (Out.of_below bel22 0 0) (.inr (Nat.zero_le _))
 replace own_g0:=own_g0.keep (Out.of_below bel22 0 0) (.inr (Nat.zero_le _))
 replace c_w0_0:=cell_later bel22 c_w0_0
 replace c_w0_1:=cell_later bel22 c_w0_1
 replace c_w0_2:=cell_later bel22 c_w0_2
 replace c_g0_0:=cell_later bel22 c_g0_0
 replace c_g0_1:=cell_later bel22 c_g0_1
 replace c_g0_2:=cell_later bel22 c_g0_2
 replace K_aD:=K_aD.later bel22
 replace K_aV:=K_aV.later bel22
 replace K_w0:=K_w0.later bel22
 replace K_x0:=K_x0.later bel22
 replace K_x1:=K_x1.later bel22
 replace K_g0:=K_g0.later bel22
 clear bel22
 clear b21
 clear c_w0_0 c_w0_1 c_w0_2 c_g0_0 c_g0_1 c_g0_2
 have c_g0_0:=K_g0.c0
 have c_g0_1:=K_g0.c1
 have c_g0_2:=K_g0.c2
 go_wp2_with fail
 refine (markV_law own_g0 1 (by omega) (by omega)).mono ?_
 rintro e W23 ⟨rr23,rfl,re23,mk_g0,out23⟩
 obtain ⟨rg23,rl23⟩:(1:Int)≤rr23∧rr23≤(1:Int)+4194304:=by omega
 clear re23
 have b23:=Out.below out23 b22 pl_g0.out
 clear own_g0
 clear b22
 replace own_w0:=own_w0.keep out23 (.inl o_w0_g0.out)
 replace c_g0_0:W23.cell? ⟨bq_g0,0,none⟩=some (.int .i64 FX.n):=out23.cell (p:=⟨bq_g0,0,none⟩) c_g0_0 (.inr far_g0)
 replace c_g0_1:W23.cell? ⟨bq_g0,1,none⟩=some (.slice A_g0 FX.b.length c_g0):=out23.cell (p:=⟨bq_g0,1,none⟩) c_g0_1 (.inr far_g0)
 replace c_g0_2:W23.cell? ⟨bq_g0,2,none⟩=some (.slice A2_g0 FX.items.length c2_g0):=out23.cell (p:=⟨bq_g0,2,none⟩) c_g0_2 (.inr far_g0)
 replace u_w0:=Lib.hid (Nat.le_trans u_w0.out out23.size)
 replace u_g0:=Lib.hid (Nat.le_trans u_g0.out out23.size)
 replace v_aD:=Lib.hid (Nat.lt_of_lt_of_le v_aD.out out23.size)
 replace v_aV:=Lib.hid (Nat.lt_of_lt_of_le v_aV.out out23.size)
 replace v_w0:=Lib.hid (Nat.lt_of_lt_of_le v_w0.out out23.size)
 replace v_x0:=Lib.hid (Nat.lt_of_lt_of_le v_x0.out out23.size)
 replace v_x1:=Lib.hid (Nat.lt_of_lt_of_le v_x1.out out23.size)
 replace v_g0:=Lib.hid (Nat.lt_of_lt_of_le v_g0.out out23.size)
 replace K_aD:=K_aD.out out23 (.inl ob_aD_g0.out)
 replace K_aV:=K_aV.out out23 (.inl ob_aV_g0.out)
 replace K_w0:=K_w0.out out23 (.inl ob_w0_g0.out)
 replace K_x0:=K_x0.out out23 (.inl ob_x0_g0.out)
 replace K_x1:=K_x1.out out23 (.inl ob_x1_g0.out)
 replace K_g0:=K_g0.out out23 (.inr far_g0)
 clear c_g0_0 c_g0_1 c_g0_2
 have c_g0_0:=K_g0.c0
 have c_g0_1:=K_g0.c1
 have c_g0_2:=K_g0.c2
 go_wp2_with fail
 refine (heldV_law mk_g0).mono ?_
 rintro e W24 ⟨rfl,bel24⟩
 have b24:=below_step bel24 b23
 replace u_w0:=Lib.hid (Nat.le_trans u_w0.out bel24.size)
 replace u_g0:=Lib.hid (Nat.le_trans u_g0.out bel24.size)
 replace v_aD:=Lib.hid (Nat.lt_of_lt_of_le v_aD.out bel24.size)
 replace v_aV:=Lib.hid (Nat.lt_of_lt_of_le v_aV.out bel24.size)
 replace v_w0:=Lib.hid (Nat.lt_of_lt_of_le v_w0.out bel24.size)
 replace v_x0:=Lib.hid (Nat.lt_of_lt_of_le v_x0.out bel24.size)
 replace v_x1:=Lib.hid (Nat.lt_of_lt_of_le v_x1.out bel24.size)
 replace v_g0:=Lib.hid (Nat.lt_of_lt_of_le v_g0.out bel24.size)
 replace own_w0:=own_w0.keep (Out.of_below bel24 0 0) (.inr (Nat.zero_le _))
 replace mk_g0:=mk_g0.keep (Out.of_below bel24 0 0) (.inr (Nat.zero_le _))
 replace c_g0_0:=cell_later bel24 c_g0_0
 replace c_g0_1:=cell_later bel24 c_g0_1
 replace c_g0_2:=cell_later bel24 c_g0_2
 replace K_aD:=K_aD.later bel24
 replace K_aV:=K_aV.later bel24
 replace K_w0:=K_w0.later bel24
 replace K_x0:=K_x0.later bel24
 replace K_x1:=K_x1.later bel24
 replace K_g0:=K_g0.later bel24
 clear bel24
 clear b23
 clear c_g0_0 c_g0_1 c_g0_2
 have c_aD_0:=K_aD.c0
 have c_aV_0:=K_aV.c0
 have c_aV_1:=K_aV.c1
 have c_aV_2:=K_aV.c2
 clear c_aD_0 c_aV_0 c_aV_1 c_aV_2
 (try clear o_g0_t3)
 (try clear o_g0_t4)
 (try clear o_g0_t5)
 (try clear o_w0_g0)
 (try clear o_w0_t3)
 (try clear o_w0_t4)
 (try clear o_w0_t5)
 (try clear o_w0_x0)
 (try clear o_w0_x1)
 (try clear o_w0_x2)
 (try clear o_x0_g0)
 (try clear o_x0_t3)
 (try clear o_x0_t4)
 (try clear o_x0_t5)
 (try clear o_x0_x1)
 (try clear o_x0_x2)
 (try clear o_x1_g0)
 (try clear o_x1_t3)
 (try clear o_x1_t4)
 (try clear o_x1_t5)
 (try clear o_x1_x2)
 (try clear o_x2_g0)
 (try clear o_x2_t3)
 (try clear o_x2_t4)
 (try clear o_x2_t5)
 (try clear ob_aD_g0)
 (try clear ob_aD_t3)
 (try clear ob_aD_t4)
 (try clear ob_aD_t5)
 (try clear ob_aD_w0)
 (try clear ob_aD_x0)
 (try clear ob_aD_x1)
 (try clear ob_aD_x2)
 (try clear ob_aV_g0)
 (try clear ob_aV_t3)
 (try clear ob_aV_t4)
 (try clear ob_aV_t5)
 (try clear ob_aV_w0)
 (try clear ob_aV_x0)
 (try clear ob_aV_x1)
 (try clear ob_aV_x2)
 (try clear ob_g0_t3)
 (try clear ob_g0_t4)
 (try clear ob_g0_t5)
 (try clear ob_w0_g0)
 (try clear ob_w0_t3)
 (try clear ob_w0_t4)
 (try clear ob_w0_t5)
 (try clear ob_w0_x0)
 (try clear ob_w0_x1)
 (try clear ob_w0_x2)
 (try clear ob_x0_g0)
 (try clear ob_x0_t3)
 (try clear ob_x0_t4)
 (try clear ob_x0_t5)
 (try clear ob_x0_x1)
 (try clear ob_x0_x2)
 (try clear ob_x1_g0)
 (try clear ob_x1_t3)
 (try clear ob_x1_t4)
 (try clear ob_x1_t5)
 (try clear ob_x1_x2)
 (try clear or_w0_g0)
 (try clear or_w0_x0)
 (try clear or_w0_x1)
 (try clear or_x0_g0)
 (try clear or_x0_x0)
 (try clear or_x0_x1)
 (try clear or_x1_g0)
 (try clear or_x1_x1)
 (try clear or_x2_g0)
 (try clear pl_g0)
 (try clear pl_t3)
 (try clear pl_t4)
 (try clear pl_t5)
 (try clear pl_w0)
 (try clear pl_x0)
 (try clear pl_x1)
 (try clear pl_x2)
 (try clear u_g0)
 (try clear u_t3)
 (try clear u_t4)
 (try clear u_t5)
 (try clear u_w0)
 (try clear u_x0)
 (try clear u_x1)
 (try clear u_x2)
 (try clear v_aD)
 (try clear v_aV)
 (try clear v_g0)
 (try clear v_w0)
 (try clear v_x0)
 (try clear v_x1)
 clear K_x0
 clear K_x1
 have c_aD_0:=K_aD.c0
 have c_aV_0:=K_aV.c0
 have c_aV_1:=K_aV.c1
 have c_aV_2:=K_aV.c2
 go_upto_region 38 with fail
 go_cut [18,19] (fun s18 s19 wx=> ∃(bq:Nat) (A1:Option Addr) (c1:Nat) (A2:Option Addr) (c2 lo hi:Nat),s18= .pointer (some ⟨bq,0,none⟩)∧s19= .bool FB∧B3 wx bq (.int .i64 FX.n) (.slice A1 FX.b.length c1) (.slice A2 FX.items.length c2)∧OwV FX lo hi wx (.agg #[.int .i64 FX.n, .slice A1 FX.b.length c1, .slice A2 FX.items.length c2])∧W24.heap.size≤lo∧True∧hi≤wx.heap.size∧W24.heap.size≤bq∧Below W24.heap.size W24 wx)
 case first=>
  have bq:=(Below.refl W24.heap.size W24).drew
  go_wp2_with fail
  refine wp_region_held_drew (S:=(fun w9=> w9.cell? ⟨w.heap.size,0,none⟩=some (.slice Aa0 l0.length ca0)∧w9.cell? ⟨w.heap.size+1,0,none⟩=some (.int .i64 nn1)∧w9.cell? ⟨w.heap.size+1,1,none⟩=some (.slice Av1 bb1.length cv1)∧w9.cell? ⟨w.heap.size+1,2,none⟩=some (.slice Aw1 ll1.length cw1))) (by kernel_rfl) ?_ (fun hHeld=> ?_)
  ·(try dsimp only);exact ⟨c_aD_0,c_aV_0,c_aV_1,c_aV_2⟩
  refine rgTake 0 (some 116) hHeld _ ?_;try go_frame
  refine rgTake 2 (some 118) hHeld _ ?_;try go_frame
  refine rgTake 4 (some 120) hHeld _ ?_;try go_frame
  refine rgTwo 1 10 (fun K hK=> ?_) (fun K hK=> ?_)
  ·go_simp
   refine (toD_law hA0 (below_step bq b24) hs0 HD0.out).mono ?_;rintro e wq ⟨t6,rfl,own_t6,bel⟩;replace bq:=below_step bel bq;(try have hgr:=zB.lt);(try have zB:=zB.later bel);obtain ⟨A_t6,c_t6,rfl⟩:=own_t6.slice
   (try go_wp2_with fail)
   refine hK.out _ _ ?_ (fun hHeld=> ?_)
   ·(try dsimp only);exact ⟨cell_later bq c_aD_0,cell_later bq c_aV_0,cell_later bq c_aV_1,cell_later bq c_aV_2⟩
   clear hK K
   try go_frame
   refine rgTwo 3 10 (fun K hK=> ?_) (fun K hK=> ?_)
   ·go_simp
    refine (toV_law HV1.out.1 HV1.out.2 rfl (below_step bq b24) hs1).mono ?_;rintro e wq ⟨u_t7,rfl,own_t7,bel⟩;replace bq:=below_step bel bq;replace own_t6:=own_t6.keep (Out.of_below bel 0 0) (.inr (Nat.zero_le _));(try have hgr:=zB.lt);(try have zB:=zB.later bel);obtain ⟨Ap_t7,cp_t7,Aq_t7,cq_t7,rfl⟩:=own_t7.agg
    (try go_wp2_with fail)
    refine hK.out _ _ ?_ (fun hHeld=> ?_)
    ·(try dsimp only);exact ⟨cell_later bq c_aD_0,cell_later bq c_aV_0,cell_later bq c_aV_1,cell_later bq c_aV_2⟩
    clear hK K
    try go_frame
    refine rgTwo 5 10 (fun K hK=> ?_) (fun K hK=> ?_)
    ·go_simp
     refine (toC_law hA2 HC2.out (below_step bq b24) hs2).mono ?_;rintro e wq ⟨t8,rfl,own_t8,bel⟩;replace bq:=below_step bel bq;replace own_t6:=own_t6.keep (Out.of_below bel 0 0) (.inr (Nat.zero_le _));replace own_t7:=own_t7.keep (Out.of_below bel 0 0) (.inr (Nat.zero_le _));(try have hgr:=zB.lt);(try have zB:=zB.later bel);obtain ⟨A_t8,c_t8,rfl⟩:=own_t8.slice
     (try go_wp2_with fail)
     refine hK.out _ _ ?_ (fun hHeld=> ?_)
     ·(try dsimp only);exact ⟨cell_later bq c_aD_0,cell_later bq c_aV_0,cell_later bq c_aV_1,cell_later bq c_aV_2⟩
     clear hK K
     try go_frame
     refine rgTwo 6 10 (fun K hK=> ?_) (fun K hK=> ?_)
     ·go_simp
      refine (implApply_law own_t6 ok_0.out own_t7 own_t8 hs1 hs2 HF.out.1 HTab.out (below_step bq b24)).mono ?_;rintro e wq ⟨vr,rfl,own_r,bel⟩;have hlo:=bq.size;replace bq:=below_step bel bq;(try have hgr:=zB.lt);(try have zB:=zB.later bel);obtain ⟨Ar1,cr1,Ar2,cr2,rfl⟩:=own_r.agg
      (try go_wp2_with fail)
      refine hK.out _ _ ?_ (fun hHeld=> ?_)
      ·(try dsimp only);exact ⟨cell_later bq c_aD_0,cell_later bq c_aV_0,cell_later bq c_aV_1,cell_later bq c_aV_2⟩
      clear hK K
      try go_frame
      refine rgTake 7 (some 115) hHeld _ ?_;try go_frame
      refine rgTake 8 (some 123) hHeld _ ?_;try go_frame
      refine rgTake 9 (some 124) hHeld _ ?_;try go_frame
      refine rgStep 10 (fun K hK=> ?_)
      (try go_simp)
      have hge:=bq.size;first|(have zB:=b3_zero bq;replace bq:=bq.alloc bq.size zO;(try have own_t6:=own_t6.bal zO);(try have own_t7:=own_t7.bal zO);(try have own_t8:=own_t8.bal zO);(try have own_r:=own_r.bal zO);generalize wq.alloc zO=wa at*)|(have zB:B3 (W24.alloc zO).drew W24.heap.size (.int .i64 0) (.slice none 0 0) (.slice none 0 0):=b3_zero bq;replace bq:Below W24.heap.size W24 (W24.alloc zO).drew:=bq.alloc bq.size zO;generalize (W24.alloc zO).drew=wa at*)
      refine hK.out _ _ ?_ (fun hHeld=> ?_)
      ·(try dsimp only);exact ⟨cell_later bq c_aD_0,cell_later bq c_aV_0,cell_later bq c_aV_1,cell_later bq c_aV_2⟩
      clear hK K
      try go_frame
      refine rgStep 11 (fun K hK=> ?_)
      (try go_simp)
      replace own_r:=own_r.set3 (by first|exact .inr hgr|exact .inl (Nat.le_refl _)) (.int .i64 FX.n) (.slice Ar1 FX.b.length cr1) (.slice Ar2 FX.items.length cr2);replace bq:=below_set3 bq hge (.int .i64 FX.n) (.slice Ar1 FX.b.length cr1) (.slice Ar2 FX.items.length cr2);have zB0:=zB;obtain ⟨zl,z0,z1,z2,y0,y1,y2⟩:=zB0;go_simp;replace zB:=zB.set (.int .i64 FX.n) (.slice Ar1 FX.b.length cr1) (.slice Ar2 FX.items.length cr2)
      refine hK.out _ _ ?_ (fun hHeld=> ?_)
      ·(try dsimp only);exact ⟨cell_later bq c_aD_0,cell_later bq c_aV_0,cell_later bq c_aV_1,cell_later bq c_aV_2⟩
      clear hK K
      try go_frame
      refine rgTake 12 (some 19) hHeld _ ?_;try go_frame
      refine wpAnyH_done (by kernel_rfl) ?_ _
      go_wp2_with fail
      go_meet
      exact ⟨_,_,_,_,_,_,_,rfl,rfl,zB,own_r,hlo,trivial,(by first|exact Nat.le_of_lt zB.lt|simp),hge,bq⟩
     ·(try go_simp)
      have hge:=bq.size;first|(have zB:=b3_zero bq;replace bq:=bq.alloc bq.size zO;(try have own_t6:=own_t6.bal zO);(try have own_t7:=own_t7.bal zO);(try have own_t8:=own_t8.bal zO);(try have own_r:=own_r.bal zO);generalize wq.alloc zO=wa at*)|(have zB:B3 (W24.alloc zO).drew W24.heap.size (.int .i64 0) (.slice none 0 0) (.slice none 0 0):=b3_zero bq;replace bq:Below W24.heap.size W24 (W24.alloc zO).drew:=bq.alloc bq.size zO;generalize (W24.alloc zO).drew=wa at*)
      refine hK.out _ _ ?_ (fun hHeld=> ?_)
      ·(try dsimp only);exact ⟨cell_later bq c_aD_0,cell_later bq c_aV_0,cell_later bq c_aV_1,cell_later bq c_aV_2⟩
      clear hK K
      try go_frame
      refine rgStep 6 (fun K hK=> ?_)
      go_simp
      refine (implApply_law own_t6 ok_0.out own_t7 own_t8 hs1 hs2 HF.out.1 HTab.out (below_step bq b24)).mono ?_;rintro e wq ⟨vr,rfl,own_r,bel⟩;have hlo:=bq.size;replace bq:=below_step bel bq;(try have hgr:=zB.lt);(try have zB:=zB.later bel);obtain ⟨Ar1,cr1,Ar2,cr2,rfl⟩:=own_r.agg
      (try go_wp2_with fail)
      refine hK.out _ _ ?_ (fun hHeld=> ?_)
      ·(try dsimp only);exact ⟨cell_later bq c_aD_0,cell_later bq c_aV_0,cell_later bq c_aV_1,cell_later bq c_aV_2⟩
      clear hK K
      try go_frame
      refine rgTake 7 (some 115) hHeld _ ?_;try go_frame
      refine rgTake 8 (some 123) hHeld _ ?_;try go_frame
      refine rgTake 9 (some 124) hHeld _ ?_;try go_frame
      refine rgStep 11 (fun K hK=> ?_)
      (try go_simp)
      replace own_r:=own_r.set3 (by first|exact .inr hgr|exact .inl (Nat.le_refl _)) (.int .i64 FX.n) (.slice Ar1 FX.b.length cr1) (.slice Ar2 FX.items.length cr2);replace bq:=below_set3 bq hge (.int .i64 FX.n) (.slice Ar1 FX.b.length cr1) (.slice Ar2 FX.items.length cr2);have zB0:=zB;obtain ⟨zl,z0,z1,z2,y0,y1,y2⟩:=zB0;go_simp;replace zB:=zB.set (.int .i64 FX.n) (.slice Ar1 FX.b.length cr1) (.slice Ar2 FX.items.length cr2)
      refine hK.out _ _ ?_ (fun hHeld=> ?_)
      ·(try dsimp only);exact ⟨cell_later bq c_aD_0,cell_later bq c_aV_0,cell_later bq c_aV_1,cell_later bq c_aV_2⟩
      clear hK K
      try go_frame
      refine rgTake 12 (some 19) hHeld _ ?_;try go_frame
      refine wpAnyH_done (by kernel_rfl) ?_ _
      go_wp2_with fail
      go_meet
      exact ⟨_,_,_,_,_,_,_,rfl,rfl,zB,own_r,hlo,trivial,(by first|exact Nat.le_of_lt zB.lt|simp),hge,bq⟩
    ·(try go_simp)
     have hge:=bq.size;first|(have zB:=b3_zero bq;replace bq:=bq.alloc bq.size zO;(try have own_t6:=own_t6.bal zO);(try have own_t7:=own_t7.bal zO);(try have own_t8:=own_t8.bal zO);(try have own_r:=own_r.bal zO);generalize wq.alloc zO=wa at*)|(have zB:B3 (W24.alloc zO).drew W24.heap.size (.int .i64 0) (.slice none 0 0) (.slice none 0 0):=b3_zero bq;replace bq:Below W24.heap.size W24 (W24.alloc zO).drew:=bq.alloc bq.size zO;generalize (W24.alloc zO).drew=wa at*)
     refine hK.out _ _ ?_ (fun hHeld=> ?_)
     ·(try dsimp only);exact ⟨cell_later bq c_aD_0,cell_later bq c_aV_0,cell_later bq c_aV_1,cell_later bq c_aV_2⟩
     clear hK K
     try go_frame
     refine rgStep 5 (fun K hK=> ?_)
     go_simp
     refine (toC_law hA2 HC2.out (below_step bq b24) hs2).mono ?_;rintro e wq ⟨t8,rfl,own_t8,bel⟩;replace bq:=below_step bel bq;replace own_t6:=own_t6.keep (Out.of_below bel 0 0) (.inr (Nat.zero_le _));replace own_t7:=own_t7.keep (Out.of_below bel 0 0) (.inr (Nat.zero_le _));(try have hgr:=zB.lt);(try have zB:=zB.later bel);obtain ⟨A_t8,c_t8,rfl⟩:=own_t8.slice
     (try go_wp2_with fail)
     refine hK.out _ _ ?_ (fun hHeld=> ?_)
     ·(try dsimp only);exact ⟨cell_later bq c_aD_0,cell_later bq c_aV_0,cell_later bq c_aV_1,cell_later bq c_aV_2⟩
     clear hK K
     try go_frame
     refine rgStep 6 (fun K hK=> ?_)
     go_simp
     refine (implApply_law own_t6 ok_0.out own_t7 own_t8 hs1 hs2 HF.out.1 HTab.out (below_step bq b24)).mono ?_;rintro e wq ⟨vr,rfl,own_r,bel⟩;have hlo:=bq.size;replace bq:=below_step bel bq;(try have hgr:=zB.lt);(try have zB:=zB.later bel);obtain ⟨Ar1,cr1,Ar2,cr2,rfl⟩:=own_r.agg
     (try go_wp2_with fail)
     refine hK.out _ _ ?_ (fun hHeld=> ?_)
     ·(try dsimp only);exact ⟨cell_later bq c_aD_0,cell_later bq c_aV_0,cell_later bq c_aV_1,cell_later bq c_aV_2⟩
     clear hK K
     try go_frame
     refine rgTake 7 (some 115) hHeld _ ?_;try go_frame
     refine rgTake 8 (some 123) hHeld _ ?_;try go_frame
     refine rgTake 9 (some 124) hHeld _ ?_;try go_frame
     refine rgStep 11 (fun K hK=> ?_)
     (try go_simp)
     replace own_r:=own_r.set3 (by first|exact .inr hgr|exact .inl (Nat.le_refl _)) (.int .i64 FX.n) (.slice Ar1 FX.b.length cr1) (.slice Ar2 FX.items.length cr2);replace bq:=below_set3 bq hge (.int .i64 FX.n) (.slice Ar1 FX.b.length cr1) (.slice Ar2 FX.items.length cr2);have zB0:=zB;obtain ⟨zl,z0,z1,z2,y0,y1,y2⟩:=zB0;go_simp;replace zB:=zB.set (.int .i64 FX.n) (.slice Ar1 FX.b.length cr1) (.slice Ar2 FX.items.length cr2)
     refine hK.out _ _ ?_ (fun hHeld=> ?_)
     ·(try dsimp only);exact ⟨cell_later bq c_aD_0,cell_later bq c_aV_0,cell_later bq c_aV_1,cell_later bq c_aV_2⟩
     clear hK K
     try go_frame
     refine rgTake 12 (some 19) hHeld _ ?_;try go_frame
     refine wpAnyH_done (by kernel_rfl) ?_ _
     go_wp2_with fail
     go_meet
     exact ⟨_,_,_,_,_,_,_,rfl,rfl,zB,own_r,hlo,trivial,(by first|exact Nat.le_of_lt zB.lt|simp),hge,bq⟩
   ·(try go_simp)
    have hge:=bq.size;first|(have zB:=b3_zero bq;replace bq:=bq.alloc bq.size zO;(try have own_t6:=own_t6.bal zO);(try have own_t7:=own_t7.bal zO);(try have own_t8:=own_t8.bal zO);(try have own_r:=own_r.bal zO);generalize wq.alloc zO=wa at*)|(have zB:B3 (W24.alloc zO).drew W24.heap.size (.int .i64 0) (.slice none 0 0) (.slice none 0 0):=b3_zero bq;replace bq:Below W24.heap.size W24 (W24.alloc zO).drew:=bq.alloc bq.size zO;generalize (W24.alloc zO).drew=wa at*)
    refine hK.out _ _ ?_ (fun hHeld=> ?_)
    ·(try dsimp only);exact ⟨cell_later bq c_aD_0,cell_later bq c_aV_0,cell_later bq c_aV_1,cell_later bq c_aV_2⟩
    clear hK K
    try go_frame
    refine rgStep 3 (fun K hK=> ?_)
    go_simp
    refine (toV_law HV1.out.1 HV1.out.2 rfl (below_step bq b24) hs1).mono ?_;rintro e wq ⟨u_t7,rfl,own_t7,bel⟩;replace bq:=below_step bel bq;replace own_t6:=own_t6.keep (Out.of_below bel 0 0) (.inr (Nat.zero_le _));(try have hgr:=zB.lt);(try have zB:=zB.later bel);obtain ⟨Ap_t7,cp_t7,Aq_t7,cq_t7,rfl⟩:=own_t7.agg
    (try go_wp2_with fail)
    refine hK.out _ _ ?_ (fun hHeld=> ?_)
    ·(try dsimp only);exact ⟨cell_later bq c_aD_0,cell_later bq c_aV_0,cell_later bq c_aV_1,cell_later bq c_aV_2⟩
    clear hK K
    try go_frame
    refine rgStep 5 (fun K hK=> ?_)
    go_simp
    refine (toC_law hA2 HC2.out (below_step bq b24) hs2).mono ?_;rintro e wq ⟨t8,rfl,own_t8,bel⟩;replace bq:=below_step bel bq;replace own_t6:=own_t6.keep (Out.of_below bel 0 0) (.inr (Nat.zero_le _));replace own_t7:=own_t7.keep (Out.of_below bel 0 0) (.inr (Nat.zero_le _));(try have hgr:=zB.lt);(try have zB:=zB.later bel);obtain ⟨A_t8,c_t8,rfl⟩:=own_t8.slice
    (try go_wp2_with fail)
    refine hK.out _ _ ?_ (fun hHeld=> ?_)
    ·(try dsimp only);exact ⟨cell_later bq c_aD_0,cell_later bq c_aV_0,cell_later bq c_aV_1,cell_later bq c_aV_2⟩
    clear hK K
    try go_frame
    refine rgStep 6 (fun K hK=> ?_)
    go_simp
    refine (implApply_law own_t6 ok_0.out own_t7 own_t8 hs1 hs2 HF.out.1 HTab.out (below_step bq b24)).mono ?_;rintro e wq ⟨vr,rfl,own_r,bel⟩;have hlo:=bq.size;replace bq:=below_step bel bq;(try have hgr:=zB.lt);(try have zB:=zB.later bel);obtain ⟨Ar1,cr1,Ar2,cr2,rfl⟩:=own_r.agg
    (try go_wp2_with fail)
    refine hK.out _ _ ?_ (fun hHeld=> ?_)
    ·(try dsimp only);exact ⟨cell_later bq c_aD_0,cell_later bq c_aV_0,cell_later bq c_aV_1,cell_later bq c_aV_2⟩
    clear hK K
    try go_frame
    refine rgTake 7 (some 115) hHeld _ ?_;try go_frame
    refine rgTake 8 (some 123) hHeld _ ?_;try go_frame
    refine rgTake 9 (some 124) hHeld _ ?_;try go_frame
    refine rgStep 11 (fun K hK=> ?_)
    (try go_simp)
    replace own_r:=own_r.set3 (by first|exact .inr hgr|exact .inl (Nat.le_refl _)) (.int .i64 FX.n) (.slice Ar1 FX.b.length cr1) (.slice Ar2 FX.items.length cr2);replace bq:=below_set3 bq hge (.int .i64 FX.n) (.slice Ar1 FX.b.length cr1) (.slice Ar2 FX.items.length cr2);have zB0:=zB;obtain ⟨zl,z0,z1,z2,y0,y1,y2⟩:=zB0;go_simp;replace zB:=zB.set (.int .i64 FX.n) (.slice Ar1 FX.b.length cr1) (.slice Ar2 FX.items.length cr2)
    refine hK.out _ _ ?_ (fun hHeld=> ?_)
    ·(try dsimp only);exact ⟨cell_later bq c_aD_0,cell_later bq c_aV_0,cell_later bq c_aV_1,cell_later bq c_aV_2⟩
    clear hK K
    try go_frame
    refine rgTake 12 (some 19) hHeld _ ?_;try go_frame
    refine wpAnyH_done (by kernel_rfl) ?_ _
    go_wp2_with fail
    go_meet
    exact ⟨_,_,_,_,_,_,_,rfl,rfl,zB,own_r,hlo,trivial,(by first|exact Nat.le_of_lt zB.lt|simp),hge,bq⟩
  ·(try go_simp)
   have hge:=bq.size;first|(have zB:=b3_zero bq;replace bq:=bq.alloc bq.size zO;(try have own_t6:=own_t6.bal zO);(try have own_t7:=own_t7.bal zO);(try have own_t8:=own_t8.bal zO);(try have own_r:=own_r.bal zO);generalize wq.alloc zO=wa at*)|(have zB:B3 (W24.alloc zO).drew W24.heap.size (.int .i64 0) (.slice none 0 0) (.slice none 0 0):=b3_zero bq;replace bq:Below W24.heap.size W24 (W24.alloc zO).drew:=bq.alloc bq.size zO;generalize (W24.alloc zO).drew=wa at*)
   refine hK.out _ _ ?_ (fun hHeld=> ?_)
   ·(try dsimp only);exact ⟨cell_later bq c_aD_0,cell_later bq c_aV_0,cell_later bq c_aV_1,cell_later bq c_aV_2⟩
   clear hK K
   try go_frame
   refine rgStep 1 (fun K hK=> ?_)
   go_simp
   refine (toD_law hA0 (below_step bq b24) hs0 HD0.out).mono ?_;rintro e wq ⟨t6,rfl,own_t6,bel⟩;replace bq:=below_step bel bq;(try have hgr:=zB.lt);(try have zB:=zB.later bel);obtain ⟨A_t6,c_t6,rfl⟩:=own_t6.slice
   (try go_wp2_with fail)
   refine hK.out _ _ ?_ (fun hHeld=> ?_)
   ·(try dsimp only);exact ⟨cell_later bq c_aD_0,cell_later bq c_aV_0,cell_later bq c_aV_1,cell_later bq c_aV_2⟩
   clear hK K
   try go_frame
   refine rgStep 3 (fun K hK=> ?_)
   go_simp
   refine (toV_law HV1.out.1 HV1.out.2 rfl (below_step bq b24) hs1).mono ?_;rintro e wq ⟨u_t7,rfl,own_t7,bel⟩;replace bq:=below_step bel bq;replace own_t6:=own_t6.keep (Out.of_below bel 0 0) (.inr (Nat.zero_le _));(try have hgr:=zB.lt);(try have zB:=zB.later bel);obtain ⟨Ap_t7,cp_t7,Aq_t7,cq_t7,rfl⟩:=own_t7.agg
   (try go_wp2_with fail)
   refine hK.out _ _ ?_ (fun hHeld=> ?_)
   ·(try dsimp only);exact ⟨cell_later bq c_aD_0,cell_later bq c_aV_0,cell_later bq c_aV_1,cell_later bq c_aV_2⟩
   clear hK K
   try go_frame
   refine rgStep 5 (fun K hK=> ?_)
   go_simp
   refine (toC_law hA2 HC2.out (below_step bq b24) hs2).mono ?_;rintro e wq ⟨t8,rfl,own_t8,bel⟩;replace bq:=below_step bel bq;replace own_t6:=own_t6.keep (Out.of_below bel 0 0) (.inr (Nat.zero_le _));replace own_t7:=own_t7.keep (Out.of_below bel 0 0) (.inr (Nat.zero_le _));(try have hgr:=zB.lt);(try have zB:=zB.later bel);obtain ⟨A_t8,c_t8,rfl⟩:=own_t8.slice
   (try go_wp2_with fail)
   refine hK.out _ _ ?_ (fun hHeld=> ?_)
   ·(try dsimp only);exact ⟨cell_later bq c_aD_0,cell_later bq c_aV_0,cell_later bq c_aV_1,cell_later bq c_aV_2⟩
   clear hK K
   try go_frame
   refine rgStep 6 (fun K hK=> ?_)
   go_simp
   refine (implApply_law own_t6 ok_0.out own_t7 own_t8 hs1 hs2 HF.out.1 HTab.out (below_step bq b24)).mono ?_;rintro e wq ⟨vr,rfl,own_r,bel⟩;have hlo:=bq.size;replace bq:=below_step bel bq;(try have hgr:=zB.lt);(try have zB:=zB.later bel);obtain ⟨Ar1,cr1,Ar2,cr2,rfl⟩:=own_r.agg
   (try go_wp2_with fail)
   refine hK.out _ _ ?_ (fun hHeld=> ?_)
   ·(try dsimp only);exact ⟨cell_later bq c_aD_0,cell_later bq c_aV_0,cell_later bq c_aV_1,cell_later bq c_aV_2⟩
   clear hK K
   try go_frame
   refine rgTake 7 (some 115) hHeld _ ?_;try go_frame
   refine rgTake 8 (some 123) hHeld _ ?_;try go_frame
   refine rgTake 9 (some 124) hHeld _ ?_;try go_frame
   refine rgStep 11 (fun K hK=> ?_)
   (try go_simp)
   replace own_r:=own_r.set3 (by first|exact .inr hgr|exact .inl (Nat.le_refl _)) (.int .i64 FX.n) (.slice Ar1 FX.b.length cr1) (.slice Ar2 FX.items.length cr2);replace bq:=below_set3 bq hge (.int .i64 FX.n) (.slice Ar1 FX.b.length cr1) (.slice Ar2 FX.items.length cr2);have zB0:=zB;obtain ⟨zl,z0,z1,z2,y0,y1,y2⟩:=zB0;go_simp;replace zB:=zB.set (.int .i64 FX.n) (.slice Ar1 FX.b.length cr1) (.slice Ar2 FX.items.length cr2)
   refine hK.out _ _ ?_ (fun hHeld=> ?_)
   ·(try dsimp only);exact ⟨cell_later bq c_aD_0,cell_later bq c_aV_0,cell_later bq c_aV_1,cell_later bq c_aV_2⟩
   clear hK K
   try go_frame
   refine rgTake 12 (some 19) hHeld _ ?_;try go_frame
   refine wpAnyH_done (by kernel_rfl) ?_ _
   go_wp2_with fail
   go_meet
   exact ⟨_,_,_,_,_,_,_,rfl,rfl,zB,own_r,hlo,trivial,(by first|exact Nat.le_of_lt zB.lt|simp),hge,bq⟩
 obtain ⟨bq_h0,A_h0,c_h0,A2_h0,c2_h0,lo_h0,hi_h0,rfl,rfl,zb_h0,own_h0,hlo_h0,far_h0,hhi_h0,hge_h0,bel25⟩:=hcut
 obtain ⟨W25,hWc⟩:∃W9:World,W9=wc:=⟨_,rfl⟩
 subst hWc
 have b25:=below_step bel25 b24
 replace own_w0:=own_w0.keep (Out.of_below bel25 0 0) (.inr (Nat.zero_le _))
 replace mk_g0:=mk_g0.keep (Out.of_below bel25 0 0) (.inr (Nat.zero_le _))
 replace c_aD_0:=cell_later bel25 c_aD_0
 replace c_aV_0:=cell_later bel25 c_aV_0
 replace c_aV_1:=cell_later bel25 c_aV_1
 replace c_aV_2:=cell_later bel25 c_aV_2
 replace K_aD:=K_aD.later bel25
 replace K_aV:=K_aV.later bel25
 replace K_w0:=K_w0.later bel25
 replace K_g0:=K_g0.later bel25
 have K_h0:=zb_h0.k3
 clear zb_h0
 clear c_aD_0 c_aV_0 c_aV_1 c_aV_2
 have c_w0_0:=K_w0.c0
 have c_w0_1:=K_w0.c1
 have c_w0_2:=K_w0.c2
 have c_h0_0:=K_h0.c0
 have c_h0_1:=K_h0.c1
 have c_h0_2:=K_h0.c2
 go_wp2_with fail
 refine (eqV_law own_h0 own_w0).mono ?_
 rintro e W26 ⟨rfl,bel26⟩
 have b26:=below_step bel26 b25
 replace own_w0:=own_w0.keep (Out.of_below bel26 0 0) (.inr (Nat.zero_le _))
 replace mk_g0:=mk_g0.keep (Out.of_below bel26 0 0) (.inr (Nat.zero_le _))
 replace own_h0:=own_h0.keep (Out.of_below bel26 0 0) (.inr (Nat.zero_le _))
 replace c_w0_0:=cell_later bel26 c_w0_0
 replace c_w0_1:=cell_later bel26 c_w0_1
 replace c_w0_2:=cell_later bel26 c_w0_2
 replace c_h0_0:=cell_later bel26 c_h0_0
 replace c_h0_1:=cell_later bel26 c_h0_1
 replace c_h0_2:=cell_later bel26 c_h0_2
 replace K_aD:=K_aD.later bel26
 replace K_aV:=K_aV.later bel26
 replace K_w0:=K_w0.later bel26
 replace K_g0:=K_g0.later bel26
 replace K_h0:=K_h0.later bel26
 clear bel26
 clear b25
 clear c_w0_0 c_w0_1 c_w0_2 c_h0_0 c_h0_1 c_h0_2
 have c_g0_0:=K_g0.c0
 have c_g0_1:=K_g0.c1
 have c_g0_2:=K_g0.c2
 go_wp2_with fail
 refine (heldV_law mk_g0).mono ?_
 rintro e W27 ⟨rfl,bel27⟩
 have b27:=below_step bel27 b26
 replace own_w0:=own_w0.keep (Out.of_below bel27 0 0) (.inr (Nat.zero_le _))
 replace mk_g0:=mk_g0.keep (Out.of_below bel27 0 0) (.inr (Nat.zero_le _))
 replace own_h0:=own_h0.keep (Out.of_below bel27 0 0) (.inr (Nat.zero_le _))
 replace c_g0_0:=cell_later bel27 c_g0_0
 replace c_g0_1:=cell_later bel27 c_g0_1
 replace c_g0_2:=cell_later bel27 c_g0_2
 replace K_aD:=K_aD.later bel27
 replace K_aV:=K_aV.later bel27
 replace K_w0:=K_w0.later bel27
 replace K_g0:=K_g0.later bel27
 replace K_h0:=K_h0.later bel27
 clear bel27
 clear b26
 clear c_g0_0 c_g0_1 c_g0_2
 have HB:=Lib.hid b27
 clear own_w0 mk_g0 own_h0 hA0 ok0 hA2 ok2
 go_wp2
 go_ret
 exact ⟨rfl,HB.out⟩
end Go.Proofs.YtipfacnmobineaaGreatDoor.FnExactApplyChanges
