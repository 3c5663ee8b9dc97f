/- The walk of the law FnExactInsertItem. No condition but those of its arguments. -/
import Derived.Test.YtbmoeefnoiecaaaGreatDoorXInsL
import Derived.Test.YtbmoeefnoiecaaaGreatDoorGf
import Derived.Test.YtbmoeefnoiecaaaGreatDoorGa
import Derived.Test.YtbmoeefnoiecaaaGreatDoorGv
import Derived.WalkSpells
import Derived.WalkLawsBesides
import Derived.Deep.RegionHeld3
set_option linter.unusedSimpArgs false
set_option linter.unusedVariables false
namespace Go.Proofs.YtbmoeefnoiecaaaGreatDoor.FnExactInsertItem
open Go.RowKit
set_option maxHeartbeats 16000000 in
set_option maxRecDepth 100000 in
theorem walk (v0:Value) (l0:List RM) (e1:VM) (a2:ByteArray) (a3:Int) (e4:VM) (w:World) (hA0:SlD w w.heap.size v0 l0) (ok0:∀r∈l0,r.d.ok) (hA1:e1.rd w w.heap.size) (ok1:e1.d.ok) (hA2:a2.size≤maxLen) (hA3: -9223372036854775808≤a3∧a3≤9223372036854775807) (hA4:e4.rd w w.heap.size) (ok4:e4.d.ok) (htab:Tab w):
  Calls Tryz.prog 5 #[.agg #[v0],vmV e1, .string a2, .int .i64 a3,vmV e4] w fun e w'=> e= .returned (.bool true)∧Below w.heap.size w w':=by
 obtain ⟨Aa0,ca0,rfl⟩:∃A c,v0= .slice A l0.length c:=by obtain ⟨A,c,h, -⟩:=hA0.open_;exact ⟨A,c,h⟩
 obtain ⟨D0,hD0⟩:∃D,l0.map RM.d=D:=⟨_,rfl⟩
 have HD0:=Lib.hid hD0
 clear hD0
 obtain ⟨nn1,bb1,vb1,vi1,ll1⟩:=e1
 obtain ⟨Av1,cv1,ev1, -⟩:=hA1.bytes.open_
 obtain ⟨Aw1,cw1,ew1, -⟩:=hA1.its.open_
 simp only [VM.vb_mk,VM.b_mk,VM.vi_mk,VM.items_mk] at ev1 ew1
 subst ev1 ew1
 obtain ⟨X1,hX1⟩:∃X,(VM.mk nn1 bb1 (.slice Av1 bb1.length cv1) (.slice Aw1 ll1.length cw1) ll1).d=X:=⟨_,rfl⟩
 have HV1:=Lib.hid (And.intro hA1 hX1)
 clear hA1 hX1 ok1
 simp only [vmV,VM.n_mk,VM.vb_mk,VM.vi_mk]
 obtain ⟨nn4,bb4,vb4,vi4,ll4⟩:=e4
 obtain ⟨Av4,cv4,ev4, -⟩:=hA4.bytes.open_
 obtain ⟨Aw4,cw4,ew4, -⟩:=hA4.its.open_
 simp only [VM.vb_mk,VM.b_mk,VM.vi_mk,VM.items_mk] at ev4 ew4
 subst ev4 ew4
 obtain ⟨X4,hX4⟩:∃X,(VM.mk nn4 bb4 (.slice Av4 bb4.length cv4) (.slice Aw4 ll4.length cw4) ll4).d=X:=⟨_,rfl⟩
 have HV4:=Lib.hid (And.intro hA4 hX4)
 clear hA4 hX4 ok4
 simp only [vmV,VM.n_mk,VM.vb_mk,VM.vi_mk]
 have HTab:=Lib.hid htab
 clear htab
 obtain ⟨FX,FB,hF⟩:∃a b,editV D0 X1 (spOk isStep a2) (spL isStep a2) (insC D0 a3 X4)=(a,b):=⟨_,_,rfl⟩
 have hFs:=insV_bound hF
 have HF:=Lib.hid (And.intro hF True.intro)
 clear hF
 have hA2':=hA2
 unfold maxLen at hA2'
 by_cases big2:1048576 < (a2.size:Int)
 ·clear hA0 ok0 hA2
  go_enter Tryz.func5,Tryz.ntmps5
  go_wp2
  go_ret
  exact ⟨rfl,(by repeat (first|exact Below.refl _ _|assumption|refine Below.alloc ?_ (by first|omega|(simp <;> omega)) _|refine Below.setCell ?_ (by first|omega|(simp <;> omega)) _|refine Below.drew ?_|refine below_drewN ?_ _))⟩
 have hl2:a2.size≤1048576:=by omega
 clear big2
 go_enter Tryz.func5,Tryz.ntmps5
 have b0:Below w.heap.size w (w.alloc (.cells #[.slice Aa0 l0.length ca0] 24)):=(Below.refl w.heap.size w).alloc ((Below.refl w.heap.size w)).size _
 have v_aD:=Lib.hid (show w.heap.size < (w.alloc (.cells #[.slice Aa0 l0.length ca0] 24)).heap.size by simp)
 have K_aD:K1 (w.alloc (.cells #[.slice Aa0 l0.length ca0] 24)) (w.heap.size) (.slice Aa0 l0.length ca0):=⟨by simp [go_sem]⟩
 have b1:Below w.heap.size w ((w.alloc (.cells #[.slice Aa0 l0.length ca0] 24)).alloc (.cells #[.int .i64 nn1, .slice Av1 bb1.length cv1, .slice Aw1 ll1.length cw1] 28)):=b0.alloc (b0).size _
 replace v_aD:=Lib.hid (Nat.lt_of_lt_of_le v_aD.out (Below.size (Below.alloc (Below.refl _ _) (Nat.le_refl _) (.cells #[.int .i64 nn1, .slice Av1 bb1.length cv1, .slice Aw1 ll1.length cw1] 28))))
 have v_aV:=Lib.hid (show w.heap.size+1 < ((w.alloc (.cells #[.slice Aa0 l0.length ca0] 24)).alloc (.cells #[.int .i64 nn1, .slice Av1 bb1.length cv1, .slice Aw1 ll1.length cw1] 28)).heap.size by simp)
 replace K_aD:=K_aD.alloc (.cells #[.int .i64 nn1, .slice Av1 bb1.length cv1, .slice Aw1 ll1.length cw1] 28)
 have K_aV:K3 ((w.alloc (.cells #[.slice Aa0 l0.length ca0] 24)).alloc (.cells #[.int .i64 nn1, .slice Av1 bb1.length cv1, .slice Aw1 ll1.length cw1] 28)) (w.heap.size+1) (.int .i64 nn1) (.slice Av1 bb1.length cv1) (.slice Aw1 ll1.length cw1):=⟨by simp [go_sem],by simp [go_sem],by simp [go_sem]⟩
 have b2:Below w.heap.size w (((w.alloc (.cells #[.slice Aa0 l0.length ca0] 24)).alloc (.cells #[.int .i64 nn1, .slice Av1 bb1.length cv1, .slice Aw1 ll1.length cw1] 28)).alloc (.cells #[.int .i64 nn4, .slice Av4 bb4.length cv4, .slice Aw4 ll4.length cw4] 28)):=b1.alloc (b1).size _
 replace v_aD:=Lib.hid (Nat.lt_of_lt_of_le v_aD.out (Below.size (Below.alloc (Below.refl _ _) (Nat.le_refl _) (.cells #[.int .i64 nn4, .slice Av4 bb4.length cv4, .slice Aw4 ll4.length cw4] 28))))
 replace v_aV:=Lib.hid (Nat.lt_of_lt_of_le v_aV.out (Below.size (Below.alloc (Below.refl _ _) (Nat.le_refl _) (.cells #[.int .i64 nn4, .slice Av4 bb4.length cv4, .slice Aw4 ll4.length cw4] 28))))
 have v_aItem:=Lib.hid (show w.heap.size+1+1 < (((w.alloc (.cells #[.slice Aa0 l0.length ca0] 24)).alloc (.cells #[.int .i64 nn1, .slice Av1 bb1.length cv1, .slice Aw1 ll1.length cw1] 28)).alloc (.cells #[.int .i64 nn4, .slice Av4 bb4.length cv4, .slice Aw4 ll4.length cw4] 28)).heap.size by simp)
 replace K_aD:=K_aD.alloc (.cells #[.int .i64 nn4, .slice Av4 bb4.length cv4, .slice Aw4 ll4.length cw4] 28)
 replace K_aV:=K_aV.alloc (.cells #[.int .i64 nn4, .slice Av4 bb4.length cv4, .slice Aw4 ll4.length cw4] 28)
 have K_aItem:K3 (((w.alloc (.cells #[.slice Aa0 l0.length ca0] 24)).alloc (.cells #[.int .i64 nn1, .slice Av1 bb1.length cv1, .slice Aw1 ll1.length cw1] 28)).alloc (.cells #[.int .i64 nn4, .slice Av4 bb4.length cv4, .slice Aw4 ll4.length cw4] 28)) (w.heap.size+1+1) (.int .i64 nn4) (.slice Av4 bb4.length cv4) (.slice Aw4 ll4.length cw4):=⟨by simp [go_sem],by simp [go_sem],by simp [go_sem]⟩
 have c_aD_0:=K_aD.c0
 go_wp2_with fail
 refine (szD_law hA0 b2 ok0 (by omega) (by omega)).mono ?_
 rintro e W3 ⟨z3,rfl,bel3,hr3⟩
 have b3:=below_step bel3 b2
 replace v_aD:=Lib.hid (Nat.lt_of_lt_of_le v_aD.out bel3.size)
 replace v_aV:=Lib.hid (Nat.lt_of_lt_of_le v_aV.out bel3.size)
 replace v_aItem:=Lib.hid (Nat.lt_of_lt_of_le v_aItem.out bel3.size)
 replace c_aD_0:=cell_later bel3 c_aD_0
 replace K_aD:=K_aD.later bel3
 replace K_aV:=K_aV.later bel3
 replace K_aItem:=K_aItem.later bel3
 clear bel3
 clear b2
 rcases hr3 with rfl|⟨q3,y3,hs0⟩
 ·have HB:=Lib.hid b3
  clear hA0 ok0 hA2
  go_wp2
  go_ret
  exact ⟨rfl,HB.out⟩
 have ok_0:=Lib.hid (okD_of ok0 hs0 HD0.out)
 clear c_aD_0
 have c_aV_0:=K_aV.c0
 have c_aV_1:=K_aV.c1
 have c_aV_2:=K_aV.c2
 go_wp2_with fail
 refine (szV_law HV1.out.1 HV1.out.2 rfl b3 q3 (by omega)).mono ?_
 rintro e W4 ⟨z4,rfl,bel4,hr4⟩
 have b4:=below_step bel4 b3
 replace v_aD:=Lib.hid (Nat.lt_of_lt_of_le v_aD.out bel4.size)
 replace v_aV:=Lib.hid (Nat.lt_of_lt_of_le v_aV.out bel4.size)
 replace v_aItem:=Lib.hid (Nat.lt_of_lt_of_le v_aItem.out bel4.size)
 replace c_aV_0:=cell_later bel4 c_aV_0
 replace c_aV_1:=cell_later bel4 c_aV_1
 replace c_aV_2:=cell_later bel4 c_aV_2
 replace K_aD:=K_aD.later bel4
 replace K_aV:=K_aV.later bel4
 replace K_aItem:=K_aItem.later bel4
 clear bel4
 clear b3
 rcases hr4 with rfl|⟨q4,y4,hs1⟩
 ·have HB:=Lib.hid b4
  clear hA0 ok0 hA2
  go_wp2
  go_ret
  exact ⟨rfl,HB.out⟩
 clear c_aV_0 c_aV_1 c_aV_2
 have c_aItem_0:=K_aItem.c0
 have c_aItem_1:=K_aItem.c1
 have c_aItem_2:=K_aItem.c2
 go_wp2_with fail
 refine (szV_law HV4.out.1 HV4.out.2 rfl b4 q4 (by omega)).mono ?_
 rintro e W5 ⟨z5,rfl,bel5,hr5⟩
 have b5:=below_step bel5 b4
 replace v_aD:=Lib.hid (Nat.lt_of_lt_of_le v_aD.out bel5.size)
 replace v_aV:=Lib.hid (Nat.lt_of_lt_of_le v_aV.out bel5.size)
 replace v_aItem:=Lib.hid (Nat.lt_of_lt_of_le v_aItem.out bel5.size)
 replace c_aItem_0:=cell_later bel5 c_aItem_0
 replace c_aItem_1:=cell_later bel5 c_aItem_1
 replace c_aItem_2:=cell_later bel5 c_aItem_2
 replace K_aD:=K_aD.later bel5
 replace K_aV:=K_aV.later bel5
 replace K_aItem:=K_aItem.later bel5
 clear bel5
 clear b4
 rcases hr5 with rfl|⟨q5,y5,hs4⟩
 ·have HB:=Lib.hid b5
  clear hA0 ok0 hA2
  go_wp2
  go_ret
  exact ⟨rfl,HB.out⟩
 clear c_aItem_0 c_aItem_1 c_aItem_2
 have c_aD_0:=K_aD.c0
 have c_aV_0:=K_aV.c0
 have c_aV_1:=K_aV.c1
 have c_aV_2:=K_aV.c2
 have c_aItem_0:=K_aItem.c0
 have c_aItem_1:=K_aItem.c1
 have c_aItem_2:=K_aItem.c2
 go_upto_region 13 with fail
 go_cut [12,13] (fun s12 s13 wx=> ∃(bq:Nat) (A1:Option Addr) (c1:Nat) (A2:Option Addr) (c2 lo hi:Nat),s12= .pointer (some ⟨bq,0,none⟩)∧s13= .bool FB∧B3 wx bq (.int .i64 FX.n) (.slice A1 FX.b.length c1) (.slice A2 FX.items.length c2)∧OwV FX lo hi wx (.agg #[.int .i64 FX.n, .slice A1 FX.b.length c1, .slice A2 FX.items.length c2])∧W5.heap.size≤lo∧True∧hi≤wx.heap.size∧W5.heap.size≤bq∧Below W5.heap.size W5 wx)
 case first=>
  have bq:=(Below.refl W5.heap.size W5).drew
  go_wp2_with fail
  refine wp_region_held_drew (S:=(fun w9=> w9.cell? ⟨w.heap.size,0,none⟩=some (.slice Aa0 l0.length ca0)∧w9.cell? ⟨w.heap.size+1,0,none⟩=some (.int .i64 nn1)∧w9.cell? ⟨w.heap.size+1,1,none⟩=some (.slice Av1 bb1.length cv1)∧w9.cell? ⟨w.heap.size+1,2,none⟩=some (.slice Aw1 ll1.length cw1)∧w9.cell? ⟨w.heap.size+1+1,0,none⟩=some (.int .i64 nn4)∧w9.cell? ⟨w.heap.size+1+1,1,none⟩=some (.slice Av4 bb4.length cv4)∧w9.cell? ⟨w.heap.size+1+1,2,none⟩=some (.slice Aw4 ll4.length cw4))) (by kernel_rfl) ?_ (fun hHeld=> ?_)
  ·(try dsimp only);exact ⟨c_aD_0,c_aV_0,c_aV_1,c_aV_2,c_aItem_0,c_aItem_1,c_aItem_2⟩
  refine rgTake 0 (some 43) hHeld _ ?_;try go_frame
  refine rgTake 2 (some 45) hHeld _ ?_;try go_frame
  refine rgTake 4 (some 47) hHeld _ ?_;try go_frame
  refine rgTake 5 (some 48) hHeld _ ?_;try go_frame
  refine rgTake 6 (some 49) hHeld _ ?_;try go_frame
  refine rgTwo 1 12 (fun K hK=> ?_) (fun K hK=> ?_)
  ·go_simp
   refine (toD_law hA0 (below_step bq b5) hs0 HD0.out).mono ?_;rintro e wq ⟨t0,rfl,own_t0,bel⟩;replace bq:=below_step bel bq;(try have hgr:=zB.lt);(try have zB:=zB.later bel);obtain ⟨A_t0,c_t0,rfl⟩:=own_t0.slice
   (try go_wp2_with fail)
   refine hK.out _ _ ?_ (fun hHeld=> ?_)
   ·(try dsimp only);exact ⟨cell_later bq c_aD_0,cell_later bq c_aV_0,cell_later bq c_aV_1,cell_later bq c_aV_2,cell_later bq c_aItem_0,cell_later bq c_aItem_1,cell_later bq c_aItem_2⟩
   clear hK K
   try go_frame
   refine rgTwo 3 12 (fun K hK=> ?_) (fun K hK=> ?_)
   ·go_simp
    refine (toV_law HV1.out.1 HV1.out.2 rfl (below_step bq b5) hs1).mono ?_;rintro e wq ⟨u_t1,rfl,own_t1,bel⟩;replace bq:=below_step bel bq;replace own_t0:=own_t0.keep (Out.of_below bel 0 0) (.inr (Nat.zero_le _));(try have hgr:=zB.lt);(try have zB:=zB.later bel);obtain ⟨Ap_t1,cp_t1,Aq_t1,cq_t1,rfl⟩:=own_t1.agg
    (try go_wp2_with fail)
    refine hK.out _ _ ?_ (fun hHeld=> ?_)
    ·(try dsimp only);exact ⟨cell_later bq c_aD_0,cell_later bq c_aV_0,cell_later bq c_aV_1,cell_later bq c_aV_2,cell_later bq c_aItem_0,cell_later bq c_aItem_1,cell_later bq c_aItem_2⟩
    clear hK K
    try go_frame
    refine rgTwo 7 12 (fun K hK=> ?_) (fun K hK=> ?_)
    ·go_simp
     refine (toV_law HV4.out.1 HV4.out.2 rfl (below_step bq b5) hs4).mono ?_;rintro e wq ⟨u_t2,rfl,own_t2,bel⟩;replace bq:=below_step bel bq;replace own_t0:=own_t0.keep (Out.of_below bel 0 0) (.inr (Nat.zero_le _));replace own_t1:=own_t1.keep (Out.of_below bel 0 0) (.inr (Nat.zero_le _));(try have hgr:=zB.lt);(try have zB:=zB.later bel);obtain ⟨Ap_t2,cp_t2,Aq_t2,cq_t2,rfl⟩:=own_t2.agg
     (try go_wp2_with fail)
     refine hK.out _ _ ?_ (fun hHeld=> ?_)
     ·(try dsimp only);exact ⟨cell_later bq c_aD_0,cell_later bq c_aV_0,cell_later bq c_aV_1,cell_later bq c_aV_2,cell_later bq c_aItem_0,cell_later bq c_aItem_1,cell_later bq c_aItem_2⟩
     clear hK K
     try go_frame
     refine rgTwo 8 12 (fun K hK=> ?_) (fun K hK=> ?_)
     ·go_simp
      refine (specIns_law own_t0 ok_0.out own_t1 own_t2 hs1 hs4 hl2 HF.out.1).mono ?_;rintro e wq ⟨vr,rfl,own_r,bel⟩;have hlo:=bq.size;replace bq:=below_step bel bq;(try have hgr:=zB.lt);(try have zB:=zB.later bel);obtain ⟨Ar1,cr1,Ar2,cr2,rfl⟩:=own_r.agg
      (try go_wp2_with fail)
      refine hK.out _ _ ?_ (fun hHeld=> ?_)
      ·(try dsimp only);exact ⟨cell_later bq c_aD_0,cell_later bq c_aV_0,cell_later bq c_aV_1,cell_later bq c_aV_2,cell_later bq c_aItem_0,cell_later bq c_aItem_1,cell_later bq c_aItem_2⟩
      clear hK K
      try go_frame
      refine rgTake 9 (some 42) hHeld _ ?_;try go_frame
      refine rgTake 10 (some 52) hHeld _ ?_;try go_frame
      refine rgTake 11 (some 53) hHeld _ ?_;try go_frame
      refine rgStep 12 (fun K hK=> ?_)
      (try go_simp)
      have hge:=bq.size;first|(have zB:=b3_zero bq;replace bq:=bq.alloc bq.size zO;(try have own_t0:=own_t0.bal zO);(try have own_t1:=own_t1.bal zO);(try have own_t2:=own_t2.bal zO);(try have own_r:=own_r.bal zO);generalize wq.alloc zO=wa at*)|(have zB:B3 (W5.alloc zO).drew W5.heap.size (.int .i64 0) (.slice none 0 0) (.slice none 0 0):=b3_zero bq;replace bq:Below W5.heap.size W5 (W5.alloc zO).drew:=bq.alloc bq.size zO;generalize (W5.alloc zO).drew=wa at*)
      refine hK.out _ _ ?_ (fun hHeld=> ?_)
      ·(try dsimp only);exact ⟨cell_later bq c_aD_0,cell_later bq c_aV_0,cell_later bq c_aV_1,cell_later bq c_aV_2,cell_later bq c_aItem_0,cell_later bq c_aItem_1,cell_later bq c_aItem_2⟩
      clear hK K
      try go_frame
      refine rgStep 13 (fun K hK=> ?_)
      (try go_simp)
      replace own_r:=own_r.set3 (by first|exact .inr hgr|exact .inl (Nat.le_refl _)) (.int .i64 FX.n) (.slice Ar1 FX.b.length cr1) (.slice Ar2 FX.items.length cr2);replace bq:=below_set3 bq hge (.int .i64 FX.n) (.slice Ar1 FX.b.length cr1) (.slice Ar2 FX.items.length cr2);have zB0:=zB;obtain ⟨zl,z0,z1,z2,y0,y1,y2⟩:=zB0;go_simp;replace zB:=zB.set (.int .i64 FX.n) (.slice Ar1 FX.b.length cr1) (.slice Ar2 FX.items.length cr2)
      refine hK.out _ _ ?_ (fun hHeld=> ?_)
      ·(try dsimp only);exact ⟨cell_later bq c_aD_0,cell_later bq c_aV_0,cell_later bq c_aV_1,cell_later bq c_aV_2,cell_later bq c_aItem_0,cell_later bq c_aItem_1,cell_later bq c_aItem_2⟩
      clear hK K
      try go_frame
      refine rgTake 14 (some 13) hHeld _ ?_;try go_frame
      refine wpAnyH_done (by kernel_rfl) ?_ _
      go_wp2_with fail
      go_meet
      exact ⟨_,_,_,_,_,_,_,rfl,rfl,zB,own_r,hlo,trivial,(by first|exact Nat.le_of_lt zB.lt|simp),hge,bq⟩
     ·(try go_simp)
      have hge:=bq.size;first|(have zB:=b3_zero bq;replace bq:=bq.alloc bq.size zO;(try have own_t0:=own_t0.bal zO);(try have own_t1:=own_t1.bal zO);(try have own_t2:=own_t2.bal zO);(try have own_r:=own_r.bal zO);generalize wq.alloc zO=wa at*)|(have zB:B3 (W5.alloc zO).drew W5.heap.size (.int .i64 0) (.slice none 0 0) (.slice none 0 0):=b3_zero bq;replace bq:Below W5.heap.size W5 (W5.alloc zO).drew:=bq.alloc bq.size zO;generalize (W5.alloc zO).drew=wa at*)
      refine hK.out _ _ ?_ (fun hHeld=> ?_)
      ·(try dsimp only);exact ⟨cell_later bq c_aD_0,cell_later bq c_aV_0,cell_later bq c_aV_1,cell_later bq c_aV_2,cell_later bq c_aItem_0,cell_later bq c_aItem_1,cell_later bq c_aItem_2⟩
      clear hK K
      try go_frame
      refine rgStep 8 (fun K hK=> ?_)
      go_simp
      refine (specIns_law own_t0 ok_0.out own_t1 own_t2 hs1 hs4 hl2 HF.out.1).mono ?_;rintro e wq ⟨vr,rfl,own_r,bel⟩;have hlo:=bq.size;replace bq:=below_step bel bq;(try have hgr:=zB.lt);(try have zB:=zB.later bel);obtain ⟨Ar1,cr1,Ar2,cr2,rfl⟩:=own_r.agg
      (try go_wp2_with fail)
      refine hK.out _ _ ?_ (fun hHeld=> ?_)
      ·(try dsimp only);exact ⟨cell_later bq c_aD_0,cell_later bq c_aV_0,cell_later bq c_aV_1,cell_later bq c_aV_2,cell_later bq c_aItem_0,cell_later bq c_aItem_1,cell_later bq c_aItem_2⟩
      clear hK K
      try go_frame
      refine rgTake 9 (some 42) hHeld _ ?_;try go_frame
      refine rgTake 10 (some 52) hHeld _ ?_;try go_frame
      refine rgTake 11 (some 53) hHeld _ ?_;try go_frame
      refine rgStep 13 (fun K hK=> ?_)
      (try go_simp)
      replace own_r:=own_r.set3 (by first|exact .inr hgr|exact .inl (Nat.le_refl _)) (.int .i64 FX.n) (.slice Ar1 FX.b.length cr1) (.slice Ar2 FX.items.length cr2);replace bq:=below_set3 bq hge (.int .i64 FX.n) (.slice Ar1 FX.b.length cr1) (.slice Ar2 FX.items.length cr2);have zB0:=zB;obtain ⟨zl,z0,z1,z2,y0,y1,y2⟩:=zB0;go_simp;replace zB:=zB.set (.int .i64 FX.n) (.slice Ar1 FX.b.length cr1) (.slice Ar2 FX.items.length cr2)
      refine hK.out _ _ ?_ (fun hHeld=> ?_)
      ·(try dsimp only);exact ⟨cell_later bq c_aD_0,cell_later bq c_aV_0,cell_later bq c_aV_1,cell_later bq c_aV_2,cell_later bq c_aItem_0,cell_later bq c_aItem_1,cell_later bq c_aItem_2⟩
      clear hK K
      try go_frame
      refine rgTake 14 (some 13) hHeld _ ?_;try go_frame
      refine wpAnyH_done (by kernel_rfl) ?_ _
      go_wp2_with fail
      go_meet
      exact ⟨_,_,_,_,_,_,_,rfl,rfl,zB,own_r,hlo,trivial,(by first|exact Nat.le_of_lt zB.lt|simp),hge,bq⟩
    ·(try go_simp)
     have hge:=bq.size;first|(have zB:=b3_zero bq;replace bq:=bq.alloc bq.size zO;(try have own_t0:=own_t0.bal zO);(try have own_t1:=own_t1.bal zO);(try have own_t2:=own_t2.bal zO);(try have own_r:=own_r.bal zO);generalize wq.alloc zO=wa at*)|(have zB:B3 (W5.alloc zO).drew W5.heap.size (.int .i64 0) (.slice none 0 0) (.slice none 0 0):=b3_zero bq;replace bq:Below W5.heap.size W5 (W5.alloc zO).drew:=bq.alloc bq.size zO;generalize (W5.alloc zO).drew=wa at*)
     refine hK.out _ _ ?_ (fun hHeld=> ?_)
     ·(try dsimp only);exact ⟨cell_later bq c_aD_0,cell_later bq c_aV_0,cell_later bq c_aV_1,cell_later bq c_aV_2,cell_later bq c_aItem_0,cell_later bq c_aItem_1,cell_later bq c_aItem_2⟩
     clear hK K
     try go_frame
     refine rgStep 7 (fun K hK=> ?_)
     go_simp
     refine (toV_law HV4.out.1 HV4.out.2 rfl (below_step bq b5) hs4).mono ?_;rintro e wq ⟨u_t2,rfl,own_t2,bel⟩;replace bq:=below_step bel bq;replace own_t0:=own_t0.keep (Out.of_below bel 0 0) (.inr (Nat.zero_le _));replace own_t1:=own_t1.keep (Out.of_below bel 0 0) (.inr (Nat.zero_le _));(try have hgr:=zB.lt);(try have zB:=zB.later bel);obtain ⟨Ap_t2,cp_t2,Aq_t2,cq_t2,rfl⟩:=own_t2.agg
     (try go_wp2_with fail)
     refine hK.out _ _ ?_ (fun hHeld=> ?_)
     ·(try dsimp only);exact ⟨cell_later bq c_aD_0,cell_later bq c_aV_0,cell_later bq c_aV_1,cell_later bq c_aV_2,cell_later bq c_aItem_0,cell_later bq c_aItem_1,cell_later bq c_aItem_2⟩
     clear hK K
     try go_frame
     refine rgStep 8 (fun K hK=> ?_)
     go_simp
     refine (specIns_law own_t0 ok_0.out own_t1 own_t2 hs1 hs4 hl2 HF.out.1).mono ?_;rintro e wq ⟨vr,rfl,own_r,bel⟩;have hlo:=bq.size;replace bq:=below_step bel bq;(try have hgr:=zB.lt);(try have zB:=zB.later bel);obtain ⟨Ar1,cr1,Ar2,cr2,rfl⟩:=own_r.agg
     (try go_wp2_with fail)
     refine hK.out _ _ ?_ (fun hHeld=> ?_)
     ·(try dsimp only);exact ⟨cell_later bq c_aD_0,cell_later bq c_aV_0,cell_later bq c_aV_1,cell_later bq c_aV_2,cell_later bq c_aItem_0,cell_later bq c_aItem_1,cell_later bq c_aItem_2⟩
     clear hK K
     try go_frame
     refine rgTake 9 (some 42) hHeld _ ?_;try go_frame
     refine rgTake 10 (some 52) hHeld _ ?_;try go_frame
     refine rgTake 11 (some 53) hHeld _ ?_;try go_frame
     refine rgStep 13 (fun K hK=> ?_)
     (try go_simp)
     replace own_r:=own_r.set3 (by first|exact .inr hgr|exact .inl (Nat.le_refl _)) (.int .i64 FX.n) (.slice Ar1 FX.b.length cr1) (.slice Ar2 FX.items.length cr2);replace bq:=below_set3 bq hge (.int .i64 FX.n) (.slice Ar1 FX.b.length cr1) (.slice Ar2 FX.items.length cr2);have zB0:=zB;obtain ⟨zl,z0,z1,z2,y0,y1,y2⟩:=zB0;go_simp;replace zB:=zB.set (.int .i64 FX.n) (.slice Ar1 FX.b.length cr1) (.slice Ar2 FX.items.length cr2)
     refine hK.out _ _ ?_ (fun hHeld=> ?_)
     ·(try dsimp only);exact ⟨cell_later bq c_aD_0,cell_later bq c_aV_0,cell_later bq c_aV_1,cell_later bq c_aV_2,cell_later bq c_aItem_0,cell_later bq c_aItem_1,cell_later bq c_aItem_2⟩
     clear hK K
     try go_frame
     refine rgTake 14 (some 13) hHeld _ ?_;try go_frame
     refine wpAnyH_done (by kernel_rfl) ?_ _
     go_wp2_with fail
     go_meet
     exact ⟨_,_,_,_,_,_,_,rfl,rfl,zB,own_r,hlo,trivial,(by first|exact Nat.le_of_lt zB.lt|simp),hge,bq⟩
   ·(try go_simp)
    have hge:=bq.size;first|(have zB:=b3_zero bq;replace bq:=bq.alloc bq.size zO;(try have own_t0:=own_t0.bal zO);(try have own_t1:=own_t1.bal zO);(try have own_t2:=own_t2.bal zO);(try have own_r:=own_r.bal zO);generalize wq.alloc zO=wa at*)|(have zB:B3 (W5.alloc zO).drew W5.heap.size (.int .i64 0) (.slice none 0 0) (.slice none 0 0):=b3_zero bq;replace bq:Below W5.heap.size W5 (W5.alloc zO).drew:=bq.alloc bq.size zO;generalize (W5.alloc zO).drew=wa at*)
    refine hK.out _ _ ?_ (fun hHeld=> ?_)
    ·(try dsimp only);exact ⟨cell_later bq c_aD_0,cell_later bq c_aV_0,cell_later bq c_aV_1,cell_later bq c_aV_2,cell_later bq c_aItem_0,cell_later bq c_aItem_1,cell_later bq c_aItem_2⟩
    clear hK K
    try go_frame
    refine rgStep 3 (fun K hK=> ?_)
    go_simp
    refine (toV_law HV1.out.1 HV1.out.2 rfl (below_step bq b5) hs1).mono ?_;rintro e wq ⟨u_t1,rfl,own_t1,bel⟩;replace bq:=below_step bel bq;replace own_t0:=own_t0.keep (Out.of_below bel 0 0) (.inr (Nat.zero_le _));(try have hgr:=zB.lt);(try have zB:=zB.later bel);obtain ⟨Ap_t1,cp_t1,Aq_t1,cq_t1,rfl⟩:=own_t1.agg
    (try go_wp2_with fail)
    refine hK.out _ _ ?_ (fun hHeld=> ?_)
    ·(try dsimp only);exact ⟨cell_later bq c_aD_0,cell_later bq c_aV_0,cell_later bq c_aV_1,cell_later bq c_aV_2,cell_later bq c_aItem_0,cell_later bq c_aItem_1,cell_later bq c_aItem_2⟩
    clear hK K
    try go_frame
    refine rgStep 7 (fun K hK=> ?_)
    go_simp
    refine (toV_law HV4.out.1 HV4.out.2 rfl (below_step bq b5) hs4).mono ?_;rintro e wq ⟨u_t2,rfl,own_t2,bel⟩;replace bq:=below_step bel bq;replace own_t0:=own_t0.keep (Out.of_below bel 0 0) (.inr (Nat.zero_le _));replace own_t1:=own_t1.keep (Out.of_below bel 0 0) (.inr (Nat.zero_le _));(try have hgr:=zB.lt);(try have zB:=zB.later bel);obtain ⟨Ap_t2,cp_t2,Aq_t2,cq_t2,rfl⟩:=own_t2.agg
    (try go_wp2_with fail)
    refine hK.out _ _ ?_ (fun hHeld=> ?_)
    ·(try dsimp only);exact ⟨cell_later bq c_aD_0,cell_later bq c_aV_0,cell_later bq c_aV_1,cell_later bq c_aV_2,cell_later bq c_aItem_0,cell_later bq c_aItem_1,cell_later bq c_aItem_2⟩
    clear hK K
    try go_frame
    refine rgStep 8 (fun K hK=> ?_)
    go_simp
    refine (specIns_law own_t0 ok_0.out own_t1 own_t2 hs1 hs4 hl2 HF.out.1).mono ?_;rintro e wq ⟨vr,rfl,own_r,bel⟩;have hlo:=bq.size;replace bq:=below_step bel bq;(try have hgr:=zB.lt);(try have zB:=zB.later bel);obtain ⟨Ar1,cr1,Ar2,cr2,rfl⟩:=own_r.agg
    (try go_wp2_with fail)
    refine hK.out _ _ ?_ (fun hHeld=> ?_)
    ·(try dsimp only);exact ⟨cell_later bq c_aD_0,cell_later bq c_aV_0,cell_later bq c_aV_1,cell_later bq c_aV_2,cell_later bq c_aItem_0,cell_later bq c_aItem_1,cell_later bq c_aItem_2⟩
    clear hK K
    try go_frame
    refine rgTake 9 (some 42) hHeld _ ?_;try go_frame
    refine rgTake 10 (some 52) hHeld _ ?_;try go_frame
    refine rgTake 11 (some 53) hHeld _ ?_;try go_frame
    refine rgStep 13 (fun K hK=> ?_)
    (try go_simp)
    replace own_r:=own_r.set3 (by first|exact .inr hgr|exact .inl (Nat.le_refl _)) (.int .i64 FX.n) (.slice Ar1 FX.b.length cr1) (.slice Ar2 FX.items.length cr2);replace bq:=below_set3 bq hge (.int .i64 FX.n) (.slice Ar1 FX.b.length cr1) (.slice Ar2 FX.items.length cr2);have zB0:=zB;obtain ⟨zl,z0,z1,z2,y0,y1,y2⟩:=zB0;go_simp;replace zB:=zB.set (.int .i64 FX.n) (.slice Ar1 FX.b.length cr1) (.slice Ar2 FX.items.length cr2)
    refine hK.out _ _ ?_ (fun hHeld=> ?_)
    ·(try dsimp only);exact ⟨cell_later bq c_aD_0,cell_later bq c_aV_0,cell_later bq c_aV_1,cell_later bq c_aV_2,cell_later bq c_aItem_0,cell_later bq c_aItem_1,cell_later bq c_aItem_2⟩
    clear hK K
    try go_frame
    refine rgTake 14 (some 13) hHeld _ ?_;try go_frame
    refine wpAnyH_done (by kernel_rfl) ?_ _
    go_wp2_with fail
    go_meet
    exact ⟨_,_,_,_,_,_,_,rfl,rfl,zB,own_r,hlo,trivial,(by first|exact Nat.le_of_lt zB.lt|simp),hge,bq⟩
  ·(try go_simp)
   have hge:=bq.size;first|(have zB:=b3_zero bq;replace bq:=bq.alloc bq.size zO;(try have own_t0:=own_t0.bal zO);(try have own_t1:=own_t1.bal zO);(try have own_t2:=own_t2.bal zO);(try have own_r:=own_r.bal zO);generalize wq.alloc zO=wa at*)|(have zB:B3 (W5.alloc zO).drew W5.heap.size (.int .i64 0) (.slice none 0 0) (.slice none 0 0):=b3_zero bq;replace bq:Below W5.heap.size W5 (W5.alloc zO).drew:=bq.alloc bq.size zO;generalize (W5.alloc zO).drew=wa at*)
   refine hK.out _ _ ?_ (fun hHeld=> ?_)
   ·(try dsimp only);exact ⟨cell_later bq c_aD_0,cell_later bq c_aV_0,cell_later bq c_aV_1,cell_later bq c_aV_2,cell_later bq c_aItem_0,cell_later bq c_aItem_1,cell_later bq c_aItem_2⟩
   clear hK K
   try go_frame
   refine rgStep 1 (fun K hK=> ?_)
   go_simp
   refine (toD_law hA0 (below_step bq b5) hs0 HD0.out).mono ?_;rintro e wq ⟨t0,rfl,own_t0,bel⟩;replace bq:=below_step bel bq;(try have hgr:=zB.lt);(try have zB:=zB.later bel);obtain ⟨A_t0,c_t0,rfl⟩:=own_t0.slice
   (try go_wp2_with fail)
   refine hK.out _ _ ?_ (fun hHeld=> ?_)
   ·(try dsimp only);exact ⟨cell_later bq c_aD_0,cell_later bq c_aV_0,cell_later bq c_aV_1,cell_later bq c_aV_2,cell_later bq c_aItem_0,cell_later bq c_aItem_1,cell_later bq c_aItem_2⟩
   clear hK K
   try go_frame
   refine rgStep 3 (fun K hK=> ?_)
   go_simp
   refine (toV_law HV1.out.1 HV1.out.2 rfl (below_step bq b5) hs1).mono ?_;rintro e wq ⟨u_t1,rfl,own_t1,bel⟩;replace bq:=below_step bel bq;replace own_t0:=own_t0.keep (Out.of_below bel 0 0) (.inr (Nat.zero_le _));(try have hgr:=zB.lt);(try have zB:=zB.later bel);obtain ⟨Ap_t1,cp_t1,Aq_t1,cq_t1,rfl⟩:=own_t1.agg
   (try go_wp2_with fail)
   refine hK.out _ _ ?_ (fun hHeld=> ?_)
   ·(try dsimp only);exact ⟨cell_later bq c_aD_0,cell_later bq c_aV_0,cell_later bq c_aV_1,cell_later bq c_aV_2,cell_later bq c_aItem_0,cell_later bq c_aItem_1,cell_later bq c_aItem_2⟩
   clear hK K
   try go_frame
   refine rgStep 7 (fun K hK=> ?_)
   go_simp
   refine (toV_law HV4.out.1 HV4.out.2 rfl (below_step bq b5) hs4).mono ?_;rintro e wq ⟨u_t2,rfl,own_t2,bel⟩;replace bq:=below_step bel bq;replace own_t0:=own_t0.keep (Out.of_below bel 0 0) (.inr (Nat.zero_le _));replace own_t1:=own_t1.keep (Out.of_below bel 0 0) (.inr (Nat.zero_le _));(try have hgr:=zB.lt);(try have zB:=zB.later bel);obtain ⟨Ap_t2,cp_t2,Aq_t2,cq_t2,rfl⟩:=own_t2.agg
   (try go_wp2_with fail)
   refine hK.out _ _ ?_ (fun hHeld=> ?_)
   ·(try dsimp only);exact ⟨cell_later bq c_aD_0,cell_later bq c_aV_0,cell_later bq c_aV_1,cell_later bq c_aV_2,cell_later bq c_aItem_0,cell_later bq c_aItem_1,cell_later bq c_aItem_2⟩
   clear hK K
   try go_frame
   refine rgStep 8 (fun K hK=> ?_)
   go_simp
   refine (specIns_law own_t0 ok_0.out own_t1 own_t2 hs1 hs4 hl2 HF.out.1).mono ?_;rintro e wq ⟨vr,rfl,own_r,bel⟩;have hlo:=bq.size;replace bq:=below_step bel bq;(try have hgr:=zB.lt);(try have zB:=zB.later bel);obtain ⟨Ar1,cr1,Ar2,cr2,rfl⟩:=own_r.agg
   (try go_wp2_with fail)
   refine hK.out _ _ ?_ (fun hHeld=> ?_)
   ·(try dsimp only);exact ⟨cell_later bq c_aD_0,cell_later bq c_aV_0,cell_later bq c_aV_1,cell_later bq c_aV_2,cell_later bq c_aItem_0,cell_later bq c_aItem_1,cell_later bq c_aItem_2⟩
   clear hK K
   try go_frame
   refine rgTake 9 (some 42) hHeld _ ?_;try go_frame
   refine rgTake 10 (some 52) hHeld _ ?_;try go_frame
   refine rgTake 11 (some 53) hHeld _ ?_;try go_frame
   refine rgStep 13 (fun K hK=> ?_)
   (try go_simp)
   replace own_r:=own_r.set3 (by first|exact .inr hgr|exact .inl (Nat.le_refl _)) (.int .i64 FX.n) (.slice Ar1 FX.b.length cr1) (.slice Ar2 FX.items.length cr2);replace bq:=below_set3 bq hge (.int .i64 FX.n) (.slice Ar1 FX.b.length cr1) (.slice Ar2 FX.items.length cr2);have zB0:=zB;obtain ⟨zl,z0,z1,z2,y0,y1,y2⟩:=zB0;go_simp;replace zB:=zB.set (.int .i64 FX.n) (.slice Ar1 FX.b.length cr1) (.slice Ar2 FX.items.length cr2)
   refine hK.out _ _ ?_ (fun hHeld=> ?_)
   ·(try dsimp only);exact ⟨cell_later bq c_aD_0,cell_later bq c_aV_0,cell_later bq c_aV_1,cell_later bq c_aV_2,cell_later bq c_aItem_0,cell_later bq c_aItem_1,cell_later bq c_aItem_2⟩
   clear hK K
   try go_frame
   refine rgTake 14 (some 13) hHeld _ ?_;try go_frame
   refine wpAnyH_done (by kernel_rfl) ?_ _
   go_wp2_with fail
   go_meet
   exact ⟨_,_,_,_,_,_,_,rfl,rfl,zB,own_r,hlo,trivial,(by first|exact Nat.le_of_lt zB.lt|simp),hge,bq⟩
 obtain ⟨bq_w0,A_w0,c_w0,A2_w0,c2_w0,lo_w0,hi_w0,rfl,rfl,zb_w0,own_w0,hlo_w0,far_w0,hhi_w0,hge_w0,bel6⟩:=hcut
 obtain ⟨W6,hWc⟩:∃W9:World,W9=wc:=⟨_,rfl⟩
 subst hWc
 have b6:=below_step bel6 b5
 have ob_aD_w0:=Lib.hid (Nat.lt_of_lt_of_le v_aD.out hlo_w0)
 replace v_aD:=Lib.hid (Nat.lt_of_lt_of_le v_aD.out bel6.size)
 have ob_aV_w0:=Lib.hid (Nat.lt_of_lt_of_le v_aV.out hlo_w0)
 replace v_aV:=Lib.hid (Nat.lt_of_lt_of_le v_aV.out bel6.size)
 have ob_aItem_w0:=Lib.hid (Nat.lt_of_lt_of_le v_aItem.out hlo_w0)
 replace v_aItem:=Lib.hid (Nat.lt_of_lt_of_le v_aItem.out bel6.size)
 have u_w0:=Lib.hid hhi_w0
 have v_w0:=Lib.hid zb_w0.lt
 have pl_w0:=Lib.hid (Nat.le_trans (b5).size hlo_w0)
 replace c_aD_0:=cell_later bel6 c_aD_0
 replace c_aV_0:=cell_later bel6 c_aV_0
 replace c_aV_1:=cell_later bel6 c_aV_1
 replace c_aV_2:=cell_later bel6 c_aV_2
 replace c_aItem_0:=cell_later bel6 c_aItem_0
 replace c_aItem_1:=cell_later bel6 c_aItem_1
 replace c_aItem_2:=cell_later bel6 c_aItem_2
 replace K_aD:=K_aD.later bel6
 replace K_aV:=K_aV.later bel6
 replace K_aItem:=K_aItem.later bel6
 have K_w0:=zb_w0.k3
 clear zb_w0
 clear c_aD_0 c_aV_0 c_aV_1 c_aV_2 c_aItem_0 c_aItem_1 c_aItem_2
 have c_aD_0:=K_aD.c0
 go_wp2_with fail
 refine (toD_law hA0 b6 hs0 HD0.out).mono ?_
 rintro e W7 ⟨x0,rfl,own_x0,bel7⟩
 have o_w0_x0:=u_w0
 have ob_aD_x0:=v_aD
 have ob_aV_x0:=v_aV
 have ob_aItem_x0:=v_aItem
 have ob_w0_x0:=v_w0
 have pl_x0:=Lib.hid (b6).size
 have b7:=below_step bel7 b6
 replace u_w0:=Lib.hid (Nat.le_trans u_w0.out bel7.size)
 replace v_aD:=Lib.hid (Nat.lt_of_lt_of_le v_aD.out bel7.size)
 replace v_aV:=Lib.hid (Nat.lt_of_lt_of_le v_aV.out bel7.size)
 replace v_aItem:=Lib.hid (Nat.lt_of_lt_of_le v_aItem.out bel7.size)
 replace v_w0:=Lib.hid (Nat.lt_of_lt_of_le v_w0.out bel7.size)
 have u_x0:=Lib.hid (show W7.heap.size≤W7.heap.size from Nat.le_refl _)
 replace own_w0:=own_w0.keep (Out.of_below bel7 0 0) (.inr (Nat.zero_le _))
 replace c_aD_0:=cell_later bel7 c_aD_0
 replace K_aD:=K_aD.later bel7
 replace K_aV:=K_aV.later bel7
 replace K_aItem:=K_aItem.later bel7
 replace K_w0:=K_w0.later bel7
 clear bel7
 clear b6
 obtain ⟨A_x0,c_x0,rfl⟩:=own_x0.slice
 clear c_aD_0
 have b8:Below w.heap.size w (W7.alloc (.cells #[.slice A_x0 D0.length c_x0] 38)):=b7.alloc (b7).size _
 have or_w0_x0:=u_w0
 replace u_w0:=Lib.hid (Nat.le_trans u_w0.out (Below.size (Below.alloc (Below.refl _ _) (Nat.le_refl _) (.cells #[.slice A_x0 D0.length c_x0] 38))))
 have or_x0_x0:=u_x0
 replace u_x0:=Lib.hid (Nat.le_trans u_x0.out (Below.size (Below.alloc (Below.refl _ _) (Nat.le_refl _) (.cells #[.slice A_x0 D0.length c_x0] 38))))
 replace v_aD:=Lib.hid (Nat.lt_of_lt_of_le v_aD.out (Below.size (Below.alloc (Below.refl _ _) (Nat.le_refl _) (.cells #[.slice A_x0 D0.length c_x0] 38))))
 replace v_aV:=Lib.hid (Nat.lt_of_lt_of_le v_aV.out (Below.size (Below.alloc (Below.refl _ _) (Nat.le_refl _) (.cells #[.slice A_x0 D0.length c_x0] 38))))
 replace v_aItem:=Lib.hid (Nat.lt_of_lt_of_le v_aItem.out (Below.size (Below.alloc (Below.refl _ _) (Nat.le_refl _) (.cells #[.slice A_x0 D0.length c_x0] 38))))
 replace v_w0:=Lib.hid (Nat.lt_of_lt_of_le v_w0.out (Below.size (Below.alloc (Below.refl _ _) (Nat.le_refl _) (.cells #[.slice A_x0 D0.length c_x0] 38))))
 have v_x0:=Lib.hid (show W7.heap.size < (W7.alloc (.cells #[.slice A_x0 D0.length c_x0] 38)).heap.size by simp)
 replace K_aD:=K_aD.alloc (.cells #[.slice A_x0 D0.length c_x0] 38)
 replace K_aV:=K_aV.alloc (.cells #[.slice A_x0 D0.length c_x0] 38)
 replace K_aItem:=K_aItem.alloc (.cells #[.slice A_x0 D0.length c_x0] 38)
 replace K_w0:=K_w0.alloc (.cells #[.slice A_x0 D0.length c_x0] 38)
 replace own_w0:=own_w0.keep (Out.of_below ((Below.refl _ _).alloc (Nat.le_refl _) (.cells #[.slice A_x0 D0.length c_x0] 38)) 0 0) (.inr (Nat.zero_le _))
 replace own_x0:=own_x0.keep (Out.of_below ((Below.refl _ _).alloc (Nat.le_refl _) (.cells #[.slice A_x0 D0.length c_x0] 38)) 0 0) (.inr (Nat.zero_le _))
 have K_x0:K1 (W7.alloc (.cells #[.slice A_x0 D0.length c_x0] 38)) (W7.heap.size) (.slice A_x0 D0.length c_x0):=⟨by simp [go_sem]⟩
 have c_aV_0:=K_aV.c0
 have c_aV_1:=K_aV.c1
 have c_aV_2:=K_aV.c2
 go_wp2_with fail
 refine (toV_law HV1.out.1 HV1.out.2 rfl b8 hs1).mono ?_
 rintro e W9 ⟨u_x1,rfl,own_x1,bel9⟩
 have o_w0_x1:=u_w0
 have o_x0_x1:=u_x0
 have ob_aD_x1:=v_aD
 have ob_aV_x1:=v_aV
 have ob_aItem_x1:=v_aItem
 have ob_w0_x1:=v_w0
 have ob_x0_x1:=v_x0
 have pl_x1:=Lib.hid (b8).size
 have b9:=below_step bel9 b8
 replace u_w0:=Lib.hid (Nat.le_trans u_w0.out bel9.size)
 replace u_x0:=Lib.hid (Nat.le_trans u_x0.out bel9.size)
 replace v_aD:=Lib.hid (Nat.lt_of_lt_of_le v_aD.out bel9.size)
 replace v_aV:=Lib.hid (Nat.lt_of_lt_of_le v_aV.out bel9.size)
 replace v_aItem:=Lib.hid (Nat.lt_of_lt_of_le v_aItem.out bel9.size)
 replace v_w0:=Lib.hid (Nat.lt_of_lt_of_le v_w0.out bel9.size)
 replace v_x0:=Lib.hid (Nat.lt_of_lt_of_le v_x0.out bel9.size)
 have u_x1:=Lib.hid (show W9.heap.size≤W9.heap.size from Nat.le_refl _)
 replace own_w0:=own_w0.keep (Out.of_below bel9 0 0) (.inr (Nat.zero_le _))
 replace own_x0:=own_x0.keep (Out.of_below bel9 0 0) (.inr (Nat.zero_le _))
 replace c_aV_0:=cell_later bel9 c_aV_0
 replace c_aV_1:=cell_later bel9 c_aV_1
 replace c_aV_2:=cell_later bel9 c_aV_2
 replace K_aD:=K_aD.later bel9
 replace K_aV:=K_aV.later bel9
 replace K_aItem:=K_aItem.later bel9
 replace K_w0:=K_w0.later bel9
 replace K_x0:=K_x0.later bel9
 clear bel9
 clear b8
 obtain ⟨Ap_x1,cp_x1,Aq_x1,cq_x1,rfl⟩:=own_x1.agg
 clear c_aV_0 c_aV_1 c_aV_2
 have b10:Below w.heap.size w (W9.alloc (.cells #[.int .i64 X1.n, .slice Ap_x1 X1.b.length cp_x1, .slice Aq_x1 X1.items.length cq_x1] 33)):=b9.alloc (b9).size _
 have or_w0_x1:=u_w0
 replace u_w0:=Lib.hid (Nat.le_trans u_w0.out (Below.size (Below.alloc (Below.refl _ _) (Nat.le_refl _) (.cells #[.int .i64 X1.n, .slice Ap_x1 X1.b.length cp_x1, .slice Aq_x1 X1.items.length cq_x1] 33))))
 have or_x0_x1:=u_x0
 replace u_x0:=Lib.hid (Nat.le_trans u_x0.out (Below.size (Below.alloc (Below.refl _ _) (Nat.le_refl _) (.cells #[.int .i64 X1.n, .slice Ap_x1 X1.b.length cp_x1, .slice Aq_x1 X1.items.length cq_x1] 33))))
 have or_x1_x1:=u_x1
 replace u_x1:=Lib.hid (Nat.le_trans u_x1.out (Below.size (Below.alloc (Below.refl _ _) (Nat.le_refl _) (.cells #[.int .i64 X1.n, .slice Ap_x1 X1.b.length cp_x1, .slice Aq_x1 X1.items.length cq_x1] 33))))
 replace v_aD:=Lib.hid (Nat.lt_of_lt_of_le v_aD.out (Below.size (Below.alloc (Below.refl _ _) (Nat.le_refl _) (.cells #[.int .i64 X1.n, .slice Ap_x1 X1.b.length cp_x1, .slice Aq_x1 X1.items.length cq_x1] 33))))
 replace v_aV:=Lib.hid (Nat.lt_of_lt_of_le v_aV.out (Below.size (Below.alloc (Below.refl _ _) (Nat.le_refl _) (.cells #[.int .i64 X1.n, .slice Ap_x1 X1.b.length cp_x1, .slice Aq_x1 X1.items.length cq_x1] 33))))
 replace v_aItem:=Lib.hid (Nat.lt_of_lt_of_le v_aItem.out (Below.size (Below.alloc (Below.refl _ _) (Nat.le_refl _) (.cells #[.int .i64 X1.n, .slice Ap_x1 X1.b.length cp_x1, .slice Aq_x1 X1.items.length cq_x1] 33))))
 replace v_w0:=Lib.hid (Nat.lt_of_lt_of_le v_w0.out (Below.size (Below.alloc (Below.refl _ _) (Nat.le_refl _) (.cells #[.int .i64 X1.n, .slice Ap_x1 X1.b.length cp_x1, .slice Aq_x1 X1.items.length cq_x1] 33))))
 replace v_x0:=Lib.hid (Nat.lt_of_lt_of_le v_x0.out (Below.size (Below.alloc (Below.refl _ _) (Nat.le_refl _) (.cells #[.int .i64 X1.n, .slice Ap_x1 X1.b.length cp_x1, .slice Aq_x1 X1.items.length cq_x1] 33))))
 have v_x1:=Lib.hid (show W9.heap.size < (W9.alloc (.cells #[.int .i64 X1.n, .slice Ap_x1 X1.b.length cp_x1, .slice Aq_x1 X1.items.length cq_x1] 33)).heap.size by simp)
 replace K_aD:=K_aD.alloc (.cells #[.int .i64 X1.n, .slice Ap_x1 X1.b.length cp_x1, .slice Aq_x1 X1.items.length cq_x1] 33)
 replace K_aV:=K_aV.alloc (.cells #[.int .i64 X1.n, .slice Ap_x1 X1.b.length cp_x1, .slice Aq_x1 X1.items.length cq_x1] 33)
 replace K_aItem:=K_aItem.alloc (.cells #[.int .i64 X1.n, .slice Ap_x1 X1.b.length cp_x1, .slice Aq_x1 X1.items.length cq_x1] 33)
 replace K_w0:=K_w0.alloc (.cells #[.int .i64 X1.n, .slice Ap_x1 X1.b.length cp_x1, .slice Aq_x1 X1.items.length cq_x1] 33)
 replace K_x0:=K_x0.alloc (.cells #[.int .i64 X1.n, .slice Ap_x1 X1.b.length cp_x1, .slice Aq_x1 X1.items.length cq_x1] 33)
 replace own_w0:=own_w0.keep (Out.of_below ((Below.refl _ _).alloc (Nat.le_refl _) (.cells #[.int .i64 X1.n, .slice Ap_x1 X1.b.length cp_x1, .slice Aq_x1 X1.items.length cq_x1] 33)) 0 0) (.inr (Nat.zero_le _))
 replace own_x0:=own_x0.keep (Out.of_below ((Below.refl _ _).alloc (Nat.le_refl _) (.cells #[.int .i64 X1.n, .slice Ap_x1 X1.b.length cp_x1, .slice Aq_x1 X1.items.length cq_x1] 33)) 0 0) (.inr (Nat.zero_le _))
 replace own_x1:=own_x1.keep (Out.of_below ((Below.refl _ _).alloc (Nat.le_refl _) (.cells #[.int .i64 X1.n, .slice Ap_x1 X1.b.length cp_x1, .slice Aq_x1 X1.items.length cq_x1] 33)) 0 0) (.inr (Nat.zero_le _))
 have K_x1:K3 (W9.alloc (.cells #[.int .i64 X1.n, .slice Ap_x1 X1.b.length cp_x1, .slice Aq_x1 X1.items.length cq_x1] 33)) (W9.heap.size) (.int .i64 X1.n) (.slice Ap_x1 X1.b.length cp_x1) (.slice Aq_x1 X1.items.length cq_x1):=⟨by simp [go_sem],by simp [go_sem],by simp [go_sem]⟩
 have c_aItem_0:=K_aItem.c0
 have c_aItem_1:=K_aItem.c1
 have c_aItem_2:=K_aItem.c2
 go_wp2_with fail
 refine (toV_law HV4.out.1 HV4.out.2 rfl b10 hs4).mono ?_
 rintro e W11 ⟨u_x4,rfl,own_x4,bel11⟩
 have o_w0_x4:=u_w0
 have o_x0_x4:=u_x0
 have o_x1_x4:=u_x1
 have ob_aD_x4:=v_aD
 have ob_aV_x4:=v_aV
 have ob_aItem_x4:=v_aItem
 have ob_w0_x4:=v_w0
 have ob_x0_x4:=v_x0
 have ob_x1_x4:=v_x1
 have pl_x4:=Lib.hid (b10).size
 have b11:=below_step bel11 b10
 replace u_w0:=Lib.hid (Nat.le_trans u_w0.out bel11.size)
 replace u_x0:=Lib.hid (Nat.le_trans u_x0.out bel11.size)
 replace u_x1:=Lib.hid (Nat.le_trans u_x1.out bel11.size)
 replace v_aD:=Lib.hid (Nat.lt_of_lt_of_le v_aD.out bel11.size)
 replace v_aV:=Lib.hid (Nat.lt_of_lt_of_le v_aV.out bel11.size)
 replace v_aItem:=Lib.hid (Nat.lt_of_lt_of_le v_aItem.out bel11.size)
 replace v_w0:=Lib.hid (Nat.lt_of_lt_of_le v_w0.out bel11.size)
 replace v_x0:=Lib.hid (Nat.lt_of_lt_of_le v_x0.out bel11.size)
 replace v_x1:=Lib.hid (Nat.lt_of_lt_of_le v_x1.out bel11.size)
 have u_x4:=Lib.hid (show W11.heap.size≤W11.heap.size from Nat.le_refl _)
 replace own_w0:=own_w0.keep (Out.of_below bel11 0 0) (.inr (Nat.zero_le _))
 replace own_x0:=own_x0.keep (Out.of_below bel11 0 0) (.inr (Nat.zero_le _))
 replace own_x1:=own_x1.keep (Out.of_below bel11 0 0) (.inr (Nat.zero_le _))
 replace c_aItem_0:=cell_later bel11 c_aItem_0
 replace c_aItem_1:=cell_later bel11 c_aItem_1
 replace c_aItem_2:=cell_later bel11 c_aItem_2
 replace K_aD:=K_aD.later bel11
 replace K_aV:=K_aV.later bel11
 replace K_aItem:=K_aItem.later bel11
 replace K_w0:=K_w0.later bel11
 replace K_x0:=K_x0.later bel11
 replace K_x1:=K_x1.later bel11
 clear bel11
 clear b10
 obtain ⟨Ap_x4,cp_x4,Aq_x4,cq_x4,rfl⟩:=own_x4.agg
 clear c_aItem_0 c_aItem_1 c_aItem_2
 have b12:Below w.heap.size w (W11.alloc (.cells #[.int .i64 X4.n, .slice Ap_x4 X4.b.length cp_x4, .slice Aq_x4 X4.items.length cq_x4] 33)):=b11.alloc (b11).size _
 have or_w0_x4:=u_w0
 replace u_w0:=Lib.hid (Nat.le_trans u_w0.out (Below.size (Below.alloc (Below.refl _ _) (Nat.le_refl _) (.cells #[.int .i64 X4.n, .slice Ap_x4 X4.b.length cp_x4, .slice Aq_x4 X4.items.length cq_x4] 33))))
 have or_x0_x4:=u_x0
 replace u_x0:=Lib.hid (Nat.le_trans u_x0.out (Below.size (Below.alloc (Below.refl _ _) (Nat.le_refl _) (.cells #[.int .i64 X4.n, .slice Ap_x4 X4.b.length cp_x4, .slice Aq_x4 X4.items.length cq_x4] 33))))
 have or_x1_x4:=u_x1
 replace u_x1:=Lib.hid (Nat.le_trans u_x1.out (Below.size (Below.alloc (Below.refl _ _) (Nat.le_refl _) (.cells #[.int .i64 X4.n, .slice Ap_x4 X4.b.length cp_x4, .slice Aq_x4 X4.items.length cq_x4] 33))))
 have or_x4_x4:=u_x4
 replace u_x4:=Lib.hid (Nat.le_trans u_x4.out (Below.size (Below.alloc (Below.refl _ _) (Nat.le_refl _) (.cells #[.int .i64 X4.n, .slice Ap_x4 X4.b.length cp_x4, .slice Aq_x4 X4.items.length cq_x4] 33))))
 replace v_aD:=Lib.hid (Nat.lt_of_lt_of_le v_aD.out (Below.size (Below.alloc (Below.refl _ _) (Nat.le_refl _) (.cells #[.int .i64 X4.n, .slice Ap_x4 X4.b.length cp_x4, .slice Aq_x4 X4.items.length cq_x4] 33))))
 replace v_aV:=Lib.hid (Nat.lt_of_lt_of_le v_aV.out (Below.size (Below.alloc (Below.refl _ _) (Nat.le_refl _) (.cells #[.int .i64 X4.n, .slice Ap_x4 X4.b.length cp_x4, .slice Aq_x4 X4.items.length cq_x4] 33))))
 replace v_aItem:=Lib.hid (Nat.lt_of_lt_of_le v_aItem.out (Below.size (Below.alloc (Below.refl _ _) (Nat.le_refl _) (.cells #[.int .i64 X4.n, .slice Ap_x4 X4.b.length cp_x4, .slice Aq_x4 X4.items.length cq_x4] 33))))
 replace v_w0:=Lib.hid (Nat.lt_of_lt_of_le v_w0.out (Below.size (Below.alloc (Below.refl _ _) (Nat.le_refl _) (.cells #[.int .i64 X4.n, .slice Ap_x4 X4.b.length cp_x4, .slice Aq_x4 X4.items.length cq_x4] 33))))
 replace v_x0:=Lib.hid (Nat.lt_of_lt_of_le v_x0.out (Below.size (Below.alloc (Below.refl _ _) (Nat.le_refl _) (.cells #[.int .i64 X4.n, .slice Ap_x4 X4.b.length cp_x4, .slice Aq_x4 X4.items.length cq_x4] 33))))
 replace v_x1:=Lib.hid (Nat.lt_of_lt_of_le v_x1.out (Below.size (Below.alloc (Below.refl _ _) (Nat.le_refl _) (.cells #[.int .i64 X4.n, .slice Ap_x4 X4.b.length cp_x4, .slice Aq_x4 X4.items.length cq_x4] 33))))
 have v_x4:=Lib.hid (show W11.heap.size < (W11.alloc (.cells #[.int .i64 X4.n, .slice Ap_x4 X4.b.length cp_x4, .slice Aq_x4 X4.items.length cq_x4] 33)).heap.size by simp)
 replace K_aD:=K_aD.alloc (.cells #[.int .i64 X4.n, .slice Ap_x4 X4.b.length cp_x4, .slice Aq_x4 X4.items.length cq_x4] 33)
 replace K_aV:=K_aV.alloc (.cells #[.int .i64 X4.n, .slice Ap_x4 X4.b.length cp_x4, .slice Aq_x4 X4.items.length cq_x4] 33)
 replace K_aItem:=K_aItem.alloc (.cells #[.int .i64 X4.n, .slice Ap_x4 X4.b.length cp_x4, .slice Aq_x4 X4.items.length cq_x4] 33)
 replace K_w0:=K_w0.alloc (.cells #[.int .i64 X4.n, .slice Ap_x4 X4.b.length cp_x4, .slice Aq_x4 X4.items.length cq_x4] 33)
 replace K_x0:=K_x0.alloc (.cells #[.int .i64 X4.n, .slice Ap_x4 X4.b.length cp_x4, .slice Aq_x4 X4.items.length cq_x4] 33)
 replace K_x1:=K_x1.alloc (.cells #[.int .i64 X4.n, .slice Ap_x4 X4.b.length cp_x4, .slice Aq_x4 X4.items.length cq_x4] 33)
 replace own_w0:=own_w0.keep (Out.of_below ((Below.refl _ _).alloc (Nat.le_refl _) (.cells #[.int .i64 X4.n, .slice Ap_x4 X4.b.length cp_x4, .slice Aq_x4 X4.items.length cq_x4] 33)) 0 0) (.inr (Nat.zero_le _))
 replace own_x0:=own_x0.keep (Out.of_below ((Below.refl _ _).alloc (Nat.le_refl _) (.cells #[.int .i64 X4.n, .slice Ap_x4 X4.b.length cp_x4, .slice Aq_x4 X4.items.length cq_x4] 33)) 0 0) (.inr (Nat.zero_le _))
 replace own_x1:=own_x1.keep (Out.of_below ((Below.refl _ _).alloc (Nat.le_refl _) (.cells #[.int .i64 X4.n, .slice Ap_x4 X4.b.length cp_x4, .slice Aq_x4 X4.items.length cq_x4] 33)) 0 0) (.inr (Nat.zero_le _))
 replace own_x4:=own_x4.keep (Out.of_below ((Below.refl _ _).alloc (Nat.le_refl _) (.cells #[.int .i64 X4.n, .slice Ap_x4 X4.b.length cp_x4, .slice Aq_x4 X4.items.length cq_x4] 33)) 0 0) (.inr (Nat.zero_le _))
 have K_x4:K3 (W11.alloc (.cells #[.int .i64 X4.n, .slice Ap_x4 X4.b.length cp_x4, .slice Aq_x4 X4.items.length cq_x4] 33)) (W11.heap.size) (.int .i64 X4.n) (.slice Ap_x4 X4.b.length cp_x4) (.slice Aq_x4 X4.items.length cq_x4):=⟨by simp [go_sem],by simp [go_sem],by simp [go_sem]⟩
 have c_x0_0:=K_x0.c0
 have c_x1_0:=K_x1.c0
 have c_x1_1:=K_x1.c1
 have c_x1_2:=K_x1.c2
 have c_x4_0:=K_x4.c0
 have c_x4_1:=K_x4.c1
 have c_x4_2:=K_x4.c2
 go_upto_region 17 with fail
 go_cut [17,18] (fun s17 s18 wx=> ∃(bq:Nat) (A1:Option Addr) (c1:Nat) (A2:Option Addr) (c2 lo hi:Nat),s17= .pointer (some ⟨bq,0,none⟩)∧s18= .bool FB∧B3 wx bq (.int .i64 FX.n) (.slice A1 FX.b.length c1) (.slice A2 FX.items.length c2)∧OwV FX lo hi wx (.agg #[.int .i64 FX.n, .slice A1 FX.b.length c1, .slice A2 FX.items.length c2])∧(W11.alloc (.cells #[.int .i64 X4.n, .slice Ap_x4 X4.b.length cp_x4, .slice Aq_x4 X4.items.length cq_x4] 33)).heap.size≤lo∧hi≤bq∧hi≤wx.heap.size∧(W11.alloc (.cells #[.int .i64 X4.n, .slice Ap_x4 X4.b.length cp_x4, .slice Aq_x4 X4.items.length cq_x4] 33)).heap.size≤bq∧Below (W11.alloc (.cells #[.int .i64 X4.n, .slice Ap_x4 X4.b.length cp_x4, .slice Aq_x4 X4.items.length cq_x4] 33)).heap.size (W11.alloc (.cells #[.int .i64 X4.n, .slice Ap_x4 X4.b.length cp_x4, .slice Aq_x4 X4.items.length cq_x4] 33)) wx)
 case first=>
  have bq:=Below.refl (W11.alloc (.cells #[.int .i64 X4.n, .slice Ap_x4 X4.b.length cp_x4, .slice Aq_x4 X4.items.length cq_x4] 33)).heap.size (W11.alloc (.cells #[.int .i64 X4.n, .slice Ap_x4 X4.b.length cp_x4, .slice Aq_x4 X4.items.length cq_x4] 33))
  go_wp2_with fail
  refine (implIns_law own_x0 ok_0.out own_x1 own_x4 hs1 hs4 hl2 HF.out.1 HTab.out (below_step bq b12)).mono ?_
  rintro e wq ⟨vr,rfl,own_r,bel⟩
  have hlo:=bq.size
  replace bq:=below_step bel bq
  obtain ⟨Ar1,cr1,Ar2,cr2,rfl⟩:=own_r.agg
  have hw:=bel.size
  have zB:=b3_new bq (.int .i64 FX.n) (.slice Ar1 FX.b.length cr1) (.slice Ar2 FX.items.length cr2) 33
  replace own_r:=own_r.bal (.cells #[.int .i64 FX.n, .slice Ar1 FX.b.length cr1, .slice Ar2 FX.items.length cr2] 33)
  have hge:=bq.size
  replace bq:=bq.alloc bq.size (.cells #[.int .i64 FX.n, .slice Ar1 FX.b.length cr1, .slice Ar2 FX.items.length cr2] 33)
  go_wp2_with fail
  go_meet
  exact ⟨_,_,_,_,_,_,_,rfl,rfl,zB,own_r,hlo,Nat.le_refl _,Nat.le_of_lt zB.lt,hge,bq⟩
 obtain ⟨bq_g0,A_g0,c_g0,A2_g0,c2_g0,lo_g0,hi_g0,rfl,rfl,zb_g0,own_g0,hlo_g0,far_g0,hhi_g0,hge_g0,bel13⟩:=hcut
 obtain ⟨W13,hWc⟩:∃W9:World,W9=wc:=⟨_,rfl⟩
 subst hWc
 have b13:=below_step bel13 b12
 have o_w0_g0:=Lib.hid (Nat.le_trans u_w0.out hlo_g0)
 have or_w0_g0:=Lib.hid (Nat.le_trans u_w0.out hge_g0)
 replace u_w0:=Lib.hid (Nat.le_trans u_w0.out bel13.size)
 have o_x0_g0:=Lib.hid (Nat.le_trans u_x0.out hlo_g0)
 have or_x0_g0:=Lib.hid (Nat.le_trans u_x0.out hge_g0)
 replace u_x0:=Lib.hid (Nat.le_trans u_x0.out bel13.size)
 have o_x1_g0:=Lib.hid (Nat.le_trans u_x1.out hlo_g0)
 have or_x1_g0:=Lib.hid (Nat.le_trans u_x1.out hge_g0)
 replace u_x1:=Lib.hid (Nat.le_trans u_x1.out bel13.size)
 have o_x4_g0:=Lib.hid (Nat.le_trans u_x4.out hlo_g0)
 have or_x4_g0:=Lib.hid (Nat.le_trans u_x4.out hge_g0)
 replace u_x4:=Lib.hid (Nat.le_trans u_x4.out bel13.size)
 have ob_aD_g0:=Lib.hid (Nat.lt_of_lt_of_le v_aD.out hlo_g0)
 replace v_aD:=Lib.hid (Nat.lt_of_lt_of_le v_aD.out bel13.size)
 have ob_aV_g0:=Lib.hid (Nat.lt_of_lt_of_le v_aV.out hlo_g0)
 replace v_aV:=Lib.hid (Nat.lt_of_lt_of_le v_aV.out bel13.size)
 have ob_aItem_g0:=Lib.hid (Nat.lt_of_lt_of_le v_aItem.out hlo_g0)
 replace v_aItem:=Lib.hid (Nat.lt_of_lt_of_le v_aItem.out bel13.size)
 have ob_w0_g0:=Lib.hid (Nat.lt_of_lt_of_le v_w0.out hlo_g0)
 replace v_w0:=Lib.hid (Nat.lt_of_lt_of_le v_w0.out bel13.size)
 have ob_x0_g0:=Lib.hid (Nat.lt_of_lt_of_le v_x0.out hlo_g0)
 replace v_x0:=Lib.hid (Nat.lt_of_lt_of_le v_x0.out bel13.size)
 have ob_x1_g0:=Lib.hid (Nat.lt_of_lt_of_le v_x1.out hlo_g0)
 replace v_x1:=Lib.hid (Nat.lt_of_lt_of_le v_x1.out bel13.size)
 have ob_x4_g0:=Lib.hid (Nat.lt_of_lt_of_le v_x4.out hlo_g0)
 replace v_x4:=Lib.hid (Nat.lt_of_lt_of_le v_x4.out bel13.size)
 have u_g0:=Lib.hid hhi_g0
 have v_g0:=Lib.hid zb_g0.lt
 have pl_g0:=Lib.hid (Nat.le_trans (b12).size hlo_g0)
 replace own_w0:=own_w0.keep (Out.of_below bel13 0 0) (.inr (Nat.zero_le _))
 replace own_x0:=own_x0.keep (Out.of_below bel13 0 0) (.inr (Nat.zero_le _))
 replace own_x1:=own_x1.keep (Out.of_below bel13 0 0) (.inr (Nat.zero_le _))
 replace own_x4:=own_x4.keep (Out.of_below bel13 0 0) (.inr (Nat.zero_le _))
 replace c_x0_0:=cell_later bel13 c_x0_0
 replace c_x1_0:=cell_later bel13 c_x1_0
 replace c_x1_1:=cell_later bel13 c_x1_1
 replace c_x1_2:=cell_later bel13 c_x1_2
 replace c_x4_0:=cell_later bel13 c_x4_0
 replace c_x4_1:=cell_later bel13 c_x4_1
 replace c_x4_2:=cell_later bel13 c_x4_2
 replace K_aD:=K_aD.later bel13
 replace K_aV:=K_aV.later bel13
 replace K_aItem:=K_aItem.later bel13
 replace K_w0:=K_w0.later bel13
 replace K_x0:=K_x0.later bel13
 replace K_x1:=K_x1.later bel13
 replace K_x4:=K_x4.later bel13
 have K_g0:=zb_g0.k3
 clear zb_g0
 clear c_x0_0 c_x1_0 c_x1_1 c_x1_2 c_x4_0 c_x4_1 c_x4_2
 have c_w0_0:=K_w0.c0
 have c_w0_1:=K_w0.c1
 have c_w0_2:=K_w0.c2
 have c_g0_0:=K_g0.c0
 have c_g0_1:=K_g0.c1
 have c_g0_2:=K_g0.c2
 go_wp2_with fail
 refine (eqV_law own_g0 own_w0).mono ?_
 rintro e W14 ⟨rfl,bel14⟩
 have b14:=below_step bel14 b13
 replace u_w0:=Lib.hid (Nat.le_trans u_w0.out bel14.size)
 replace u_x0:=Lib.hid (Nat.le_trans u_x0.out bel14.size)
 replace u_x1:=Lib.hid (Nat.le_trans u_x1.out bel14.size)
 replace u_x4:=Lib.hid (Nat.le_trans u_x4.out bel14.size)
 replace u_g0:=Lib.hid (Nat.le_trans u_g0.out bel14.size)
 replace v_aD:=Lib.hid (Nat.lt_of_lt_of_le v_aD.out bel14.size)
 replace v_aV:=Lib.hid (Nat.lt_of_lt_of_le v_aV.out bel14.size)
 replace v_aItem:=Lib.hid (Nat.lt_of_lt_of_le v_aItem.out bel14.size)
 replace v_w0:=Lib.hid (Nat.lt_of_lt_of_le v_w0.out bel14.size)
 replace v_x0:=Lib.hid (Nat.lt_of_lt_of_le v_x0.out bel14.size)
 replace v_x1:=Lib.hid (Nat.lt_of_lt_of_le v_x1.out bel14.size)
 replace v_x4:=Lib.hid (Nat.lt_of_lt_of_le v_x4.out bel14.size)
 replace v_g0:=Lib.hid (Nat.lt_of_lt_of_le v_g0.out bel14.size)
 replace own_w0:=own_w0.keep (Out.of_below bel14 0 0) (.inr (Nat.zero_le _))
 replace own_x0:=own_x0.keep (Out.of_below bel14 0 0) (.inr (Nat.zero_le _))
 replace own_x1:=own_x1.keep (Out.of_below bel14 0 0) (.inr (Nat.zero_le _))
 replace own_x4:=own_x4.keep (Out.of_below bel14 0 0) (.inr (Nat.zero_le _))
 replace own_g0:=own_g0.keep (Out.of_below bel14 0 0) (.inr (Nat.zero_le _))
 replace c_w0_0:=cell_later bel14 c_w0_0
 replace c_w0_1:=cell_later bel14 c_w0_1
 replace c_w0_2:=cell_later bel14 c_w0_2
 replace c_g0_0:=cell_later bel14 c_g0_0
 replace c_g0_1:=cell_later bel14 c_g0_1
 replace c_g0_2:=cell_later bel14 c_g0_2
 replace K_aD:=K_aD.later bel14
 replace K_aV:=K_aV.later bel14
 replace K_aItem:=K_aItem.later bel14
 replace K_w0:=K_w0.later bel14
 replace K_x0:=K_x0.later bel14
 replace K_x1:=K_x1.later bel14
 replace K_x4:=K_x4.later bel14
 replace K_g0:=K_g0.later bel14
 clear bel14
 clear b13
 clear c_w0_0 c_w0_1 c_w0_2 c_g0_0 c_g0_1 c_g0_2
 have c_aD_0:=K_aD.c0
 have c_x0_0:=K_x0.c0
 go_wp2_with fail
 replace own_w0:=own_w0.keep (Out.of_below ((Below.refl W14.heap.size W14).drew) 0 0) (.inr (Nat.zero_le _))
 replace own_x0:=own_x0.keep (Out.of_below ((Below.refl W14.heap.size W14).drew) 0 0) (.inr (Nat.zero_le _))
 replace own_x1:=own_x1.keep (Out.of_below ((Below.refl W14.heap.size W14).drew) 0 0) (.inr (Nat.zero_le _))
 replace own_x4:=own_x4.keep (Out.of_below ((Below.refl W14.heap.size W14).drew) 0 0) (.inr (Nat.zero_le _))
 replace own_g0:=own_g0.keep (Out.of_below ((Below.refl W14.heap.size W14).drew) 0 0) (.inr (Nat.zero_le _))
 replace K_aD:=K_aD.drew
 replace K_aV:=K_aV.drew
 replace K_aItem:=K_aItem.drew
 replace K_w0:=K_w0.drew
 replace K_x0:=K_x0.drew
 replace K_x1:=K_x1.drew
 replace K_x4:=K_x4.drew
 replace K_g0:=K_g0.drew
 refine wp_region_held_drew (S:=(fun w9=> w9.cell? ⟨w.heap.size,0,none⟩=some (.slice Aa0 l0.length ca0)∧w9.cell? ⟨W7.heap.size,0,none⟩=some (.slice A_x0 D0.length c_x0))) (by kernel_rfl) ?_ (fun hHeld=> ?_)
 ·(try dsimp only);exact ⟨c_aD_0,c_x0_0⟩
 refine rgTake 0 (some 78) hHeld _ ?_;try go_frame
 refine rgTake 1 (some 79) hHeld _ ?_;try go_frame
 refine rgStep 2 (fun K hK=> ?_)
 go_simp
 refine (toD_law hA0 (b14).drew hs0 HD0.out).mono ?_;rintro e W15 ⟨t3,rfl,own_t3,bel15⟩;have o_w0_t3:=u_w0;have o_x0_t3:=u_x0;have o_x1_t3:=u_x1;have o_x4_t3:=u_x4;have o_g0_t3:=u_g0;have ob_aD_t3:=v_aD;have ob_aV_t3:=v_aV;have ob_aItem_t3:=v_aItem;have ob_w0_t3:=v_w0;have ob_x0_t3:=v_x0;have ob_x1_t3:=v_x1;have ob_x4_t3:=v_x4;have ob_g0_t3:=v_g0;have pl_t3:=Lib.hid ((b14).drew).size;have b15:=below_step bel15 (b14).drew;replace u_w0:=Lib.hid (Nat.le_trans u_w0.out bel15.size);replace u_x0:=Lib.hid (Nat.le_trans u_x0.out bel15.size);replace u_x1:=Lib.hid (Nat.le_trans u_x1.out bel15.size);replace u_x4:=Lib.hid (Nat.le_trans u_x4.out bel15.size);replace u_g0:=Lib.hid (Nat.le_trans u_g0.out bel15.size);replace v_aD:=Lib.hid (Nat.lt_of_lt_of_le v_aD.out bel15.size);replace v_aV:=Lib.hid (Nat.lt_of_lt_of_le v_aV.out bel15.size);replace v_aItem:=Lib.hid (Nat.lt_of_lt_of_le v_aItem.out bel15.size);replace v_w0:=Lib.hid (Nat.lt_of_lt_of_le v_w0.out bel15.size);replace v_x0:=Lib.hid (Nat.lt_of_lt_of_le v_x0.out bel15.size);replace v_x1:=Lib.hid (Nat.lt_of_lt_of_le v_x1.out bel15.size);replace v_x4:=Lib.hid (Nat.lt_of_lt_of_le v_x4.out bel15.size);replace v_g0:=Lib.hid (Nat.lt_of_lt_of_le v_g0.out bel15.size);have u_t3:=Lib.hid (show W15.heap.size≤W15.heap.size from Nat.le_refl _);replace own_w0:=own_w0.keep (Out.of_below bel15 0 0) (.inr (Nat.zero_le _));replace own_x0:=own_x0.keep (Out.of_below bel15 0 0) (.inr (Nat.zero_le _));replace own_x1:=own_x1.keep (Out.of_below bel15 0 0) (.inr (Nat.zero_le _));replace own_x4:=own_x4.keep (Out.of_below bel15 0 0) (.inr (Nat.zero_le _));replace own_g0:=own_g0.keep (Out.of_below bel15 0 0) (.inr (Nat.zero_le _));replace c_aD_0:=cell_later bel15 c_aD_0;replace c_x0_0:=cell_later bel15 c_x0_0;replace K_aD:=K_aD.later bel15;replace K_aV:=K_aV.later bel15;replace K_aItem:=K_aItem.later bel15;replace K_w0:=K_w0.later bel15;replace K_x0:=K_x0.later bel15;replace K_x1:=K_x1.later bel15;replace K_x4:=K_x4.later bel15;replace K_g0:=K_g0.later bel15;obtain ⟨A_t3,c_t3,rfl⟩:=own_t3.slice
 (try go_wp2_with fail)
 refine hK.out _ _ ?_ (fun hHeld=> ?_)
 ·(try dsimp only);exact ⟨c_aD_0,c_x0_0⟩
 clear hK K
 try go_frame
 refine rgStep 3 (fun K hK=> ?_)
 go_simp
 refine (eqD_law own_x0 own_t3).mono ?_;rintro e W16 ⟨rfl,bel16⟩;have b16:=below_step bel16 b15;replace u_w0:=Lib.hid (Nat.le_trans u_w0.out bel16.size);replace u_x0:=Lib.hid (Nat.le_trans u_x0.out bel16.size);replace u_x1:=Lib.hid (Nat.le_trans u_x1.out bel16.size);replace u_x4:=Lib.hid (Nat.le_trans u_x4.out bel16.size);replace u_g0:=Lib.hid (Nat.le_trans u_g0.out bel16.size);replace u_t3:=Lib.hid (Nat.le_trans u_t3.out bel16.size);replace v_aD:=Lib.hid (Nat.lt_of_lt_of_le v_aD.out bel16.size);replace v_aV:=Lib.hid (Nat.lt_of_lt_of_le v_aV.out bel16.size);replace v_aItem:=Lib.hid (Nat.lt_of_lt_of_le v_aItem.out bel16.size);replace v_w0:=Lib.hid (Nat.lt_of_lt_of_le v_w0.out bel16.size);replace v_x0:=Lib.hid (Nat.lt_of_lt_of_le v_x0.out bel16.size);replace v_x1:=Lib.hid (Nat.lt_of_lt_of_le v_x1.out bel16.size);replace v_x4:=Lib.hid (Nat.lt_of_lt_of_le v_x4.out bel16.size);replace v_g0:=Lib.hid (Nat.lt_of_lt_of_le v_g0.out bel16.size);replace own_w0:=own_w0.keep (Out.of_below bel16 0 0) (.inr (Nat.zero_le _));replace own_x0:=own_x0.keep (Out.of_below bel16 0 0) (.inr (Nat.zero_le _));replace own_x1:=own_x1.keep (Out.of_below bel16 0 0) (.inr (Nat.zero_le _));replace own_x4:=own_x4.keep (Out.of_below bel16 0 0) (.inr (Nat.zero_le _));replace own_g0:=own_g0.keep (Out.of_below bel16 0 0) (.inr (Nat.zero_le _));replace own_t3:=own_t3.keep (Out.of_below bel16 0 0) (.inr (Nat.zero_le _));replace c_aD_0:=cell_later bel16 c_aD_0;replace c_x0_0:=cell_later bel16 c_x0_0;replace K_aD:=K_aD.later bel16;replace K_aV:=K_aV.later bel16;replace K_aItem:=K_aItem.later bel16;replace K_w0:=K_w0.later bel16;replace K_x0:=K_x0.later bel16;replace K_x1:=K_x1.later bel16;replace K_x4:=K_x4.later bel16;replace K_g0:=K_g0.later bel16;clear own_t3
 (try go_wp2_with fail)
 refine hK.out _ _ ?_ (fun hHeld=> ?_)
 ·(try dsimp only);exact ⟨c_aD_0,c_x0_0⟩
 clear hK K
 try go_frame
 refine rgTake 4 (some 82) hHeld _ ?_;try go_frame
 refine wpAnyH_done (by kernel_rfl) ?_ _
 clear c_aD_0 c_x0_0
 have c_aV_0:=K_aV.c0
 have c_aV_1:=K_aV.c1
 have c_aV_2:=K_aV.c2
 have c_x1_0:=K_x1.c0
 have c_x1_1:=K_x1.c1
 have c_x1_2:=K_x1.c2
 go_wp2_with fail
 replace own_w0:=own_w0.keep (Out.of_below ((Below.refl W16.heap.size W16).drew) 0 0) (.inr (Nat.zero_le _))
 replace own_x0:=own_x0.keep (Out.of_below ((Below.refl W16.heap.size W16).drew) 0 0) (.inr (Nat.zero_le _))
 replace own_x1:=own_x1.keep (Out.of_below ((Below.refl W16.heap.size W16).drew) 0 0) (.inr (Nat.zero_le _))
 replace own_x4:=own_x4.keep (Out.of_below ((Below.refl W16.heap.size W16).drew) 0 0) (.inr (Nat.zero_le _))
 replace own_g0:=own_g0.keep (Out.of_below ((Below.refl W16.heap.size W16).drew) 0 0) (.inr (Nat.zero_le _))
 replace K_aD:=K_aD.drew
 replace K_aV:=K_aV.drew
 replace K_aItem:=K_aItem.drew
 replace K_w0:=K_w0.drew
 replace K_x0:=K_x0.drew
 replace K_x1:=K_x1.drew
 replace K_x4:=K_x4.drew
 replace K_g0:=K_g0.drew
 refine wp_region_held_drew (S:=(fun w9=> w9.cell? ⟨w.heap.size+1,0,none⟩=some (.int .i64 nn1)∧w9.cell? ⟨w.heap.size+1,1,none⟩=some (.slice Av1 bb1.length cv1)∧w9.cell? ⟨w.heap.size+1,2,none⟩=some (.slice Aw1 ll1.length cw1)∧w9.cell? ⟨W9.heap.size,0,none⟩=some (.int .i64 X1.n)∧w9.cell? ⟨W9.heap.size,1,none⟩=some (.slice Ap_x1 X1.b.length cp_x1)∧w9.cell? ⟨W9.heap.size,2,none⟩=some (.slice Aq_x1 X1.items.length cq_x1))) (by kernel_rfl) ?_ (fun hHeld=> ?_)
 ·(try dsimp only);exact ⟨c_aV_0,c_aV_1,c_aV_2,c_x1_0,c_x1_1,c_x1_2⟩
 refine rgTake 0 (some 83) hHeld _ ?_;try go_frame
 refine rgTake 1 (some 84) hHeld _ ?_;try go_frame
 refine rgStep 2 (fun K hK=> ?_)
 go_simp
 refine (toV_law HV1.out.1 HV1.out.2 rfl (b16).drew hs1).mono ?_;rintro e W17 ⟨u_t4,rfl,own_t4,bel17⟩;have o_w0_t4:=u_w0;have o_x0_t4:=u_x0;have o_x1_t4:=u_x1;have o_x4_t4:=u_x4;have o_g0_t4:=u_g0;have ob_aD_t4:=v_aD;have ob_aV_t4:=v_aV;have ob_aItem_t4:=v_aItem;have ob_w0_t4:=v_w0;have ob_x0_t4:=v_x0;have ob_x1_t4:=v_x1;have ob_x4_t4:=v_x4;have ob_g0_t4:=v_g0;have pl_t4:=Lib.hid ((b16).drew).size;have b17:=below_step bel17 (b16).drew;replace u_w0:=Lib.hid (Nat.le_trans u_w0.out bel17.size);replace u_x0:=Lib.hid (Nat.le_trans u_x0.out bel17.size);replace u_x1:=Lib.hid (Nat.le_trans u_x1.out bel17.size);replace u_x4:=Lib.hid (Nat.le_trans u_x4.out bel17.size);replace u_g0:=Lib.hid (Nat.le_trans u_g0.out bel17.size);replace v_aD:=Lib.hid (Nat.lt_of_lt_of_le v_aD.out bel17.size);replace v_aV:=Lib.hid (Nat.lt_of_lt_of_le v_aV.out bel17.size);replace v_aItem:=Lib.hid (Nat.lt_of_lt_of_le v_aItem.out bel17.size);replace v_w0:=Lib.hid (Nat.lt_of_lt_of_le v_w0.out bel17.size);replace v_x0:=Lib.hid (Nat.lt_of_lt_of_le v_x0.out bel17.size);replace v_x1:=Lib.hid (Nat.lt_of_lt_of_le v_x1.out bel17.size);replace v_x4:=Lib.hid (Nat.lt_of_lt_of_le v_x4.out bel17.size);replace v_g0:=Lib.hid (Nat.lt_of_lt_of_le v_g0.out bel17.size);have u_t4:=Lib.hid (show W17.heap.size≤W17.heap.size from Nat.le_refl _);replace own_w0:=own_w0.keep (Out.of_below bel17 0 0) (.inr (Nat.zero_le _));replace own_x0:=own_x0.keep (Out.of_below bel17 0 0) (.inr (Nat.zero_le _));replace own_x1:=own_x1.keep (Out.of_below bel17 0 0) (.inr (Nat.zero_le _));replace own_x4:=own_x4.keep (Out.of_below bel17 0 0) (.inr (Nat.zero_le _));replace own_g0:=own_g0.keep (Out.of_below bel17 0 0) (.inr (Nat.zero_le _));replace c_aV_0:=cell_later bel17 c_aV_0;replace c_aV_1:=cell_later bel17 c_aV_1;replace c_aV_2:=cell_later bel17 c_aV_2;replace c_x1_0:=cell_later bel17 c_x1_0;replace c_x1_1:=cell_later bel17 c_x1_1;replace c_x1_2:=cell_later bel17 c_x1_2;replace K_aD:=K_aD.later bel17;replace K_aV:=K_aV.later bel17;replace K_aItem:=K_aItem.later bel17;replace K_w0:=K_w0.later bel17;replace K_x0:=K_x0.later bel17;replace K_x1:=K_x1.later bel17;replace K_x4:=K_x4.later bel17;replace K_g0:=K_g0.later bel17;obtain ⟨Ap_t4,cp_t4,Aq_t4,cq_t4,rfl⟩:=own_t4.agg
 (try go_wp2_with fail)
 refine hK.out _ _ ?_ (fun hHeld=> ?_)
 ·(try dsimp only);exact ⟨c_aV_0,c_aV_1,c_aV_2,c_x1_0,c_x1_1,c_x1_2⟩
 clear hK K
 try go_frame
 refine rgStep 3 (fun K hK=> ?_)
 go_simp
 refine (eqV_law own_x1 own_t4).mono ?_;rintro e W18 ⟨rfl,bel18⟩;have b18:=below_step bel18 b17;replace u_w0:=Lib.hid (Nat.le_trans u_w0.out bel18.size);replace u_x0:=Lib.hid (Nat.le_trans u_x0.out bel18.size);replace u_x1:=Lib.hid (Nat.le_trans u_x1.out bel18.size);replace u_x4:=Lib.hid (Nat.le_trans u_x4.out bel18.size);replace u_g0:=Lib.hid (Nat.le_trans u_g0.out bel18.size);replace u_t4:=Lib.hid (Nat.le_trans u_t4.out bel18.size);replace v_aD:=Lib.hid (Nat.lt_of_lt_of_le v_aD.out bel18.size);replace v_aV:=Lib.hid (Nat.lt_of_lt_of_le v_aV.out bel18.size);replace v_aItem:=Lib.hid (Nat.lt_of_lt_of_le v_aItem.out bel18.size);replace v_w0:=Lib.hid (Nat.lt_of_lt_of_le v_w0.out bel18.size);replace v_x0:=Lib.hid (Nat.lt_of_lt_of_le v_x0.out bel18.size);replace v_x1:=Lib.hid (Nat.lt_of_lt_of_le v_x1.out bel18.size);replace v_x4:=Lib.hid (Nat.lt_of_lt_of_le v_x4.out bel18.size);replace v_g0:=Lib.hid (Nat.lt_of_lt_of_le v_g0.out bel18.size);replace own_w0:=own_w0.keep (Out.of_below bel18 0 0) (.inr (Nat.zero_le _));replace own_x0:=own_x0.keep (Out.of_below bel18 0 0) (.inr (Nat.zero_le _));replace own_x1:=own_x1.keep (Out.of_below bel18 0 0) (.inr (Nat.zero_le _));replace own_x4:=own_x4.keep (Out.of_below bel18 0 0) (.inr (Nat.zero_le _));replace own_g0:=own_g0.keep (Out.of_below bel18 0 0) (.inr (Nat.zero_le _));replace own_t4:=own_t4.keep (Out.of_below bel18 0 0) (.inr (Nat.zero_le _));replace c_aV_0:=cell_later bel18 c_aV_0;replace c_aV_1:=cell_later bel18 c_aV_1;replace c_aV_2:=cell_later bel18 c_aV_2;replace c_x1_0:=cell_later bel18 c_x1_0;replace c_x1_1:=cell_later bel18 c_x1_1;replace c_x1_2:=cell_later bel18 c_x1_2;replace K_aD:=K_aD.later bel18;replace K_aV:=K_aV.later bel18;replace K_aItem:=K_aItem.later bel18;replace K_w0:=K_w0.later bel18;replace K_x0:=K_x0.later bel18;replace K_x1:=K_x1.later bel18;replace K_x4:=K_x4.later bel18;replace K_g0:=K_g0.later bel18;clear own_t4
 (try go_wp2_with fail)
 refine hK.out _ _ ?_ (fun hHeld=> ?_)
 ·(try dsimp only);exact ⟨c_aV_0,c_aV_1,c_aV_2,c_x1_0,c_x1_1,c_x1_2⟩
 clear hK K
 try go_frame
 refine rgTake 4 (some 87) hHeld _ ?_;try go_frame
 refine wpAnyH_done (by kernel_rfl) ?_ _
 clear c_aV_0 c_aV_1 c_aV_2 c_x1_0 c_x1_1 c_x1_2
 have c_aItem_0:=K_aItem.c0
 have c_aItem_1:=K_aItem.c1
 have c_aItem_2:=K_aItem.c2
 have c_x4_0:=K_x4.c0
 have c_x4_1:=K_x4.c1
 have c_x4_2:=K_x4.c2
 go_wp2_with fail
 replace own_w0:=own_w0.keep (Out.of_below ((Below.refl W18.heap.size W18).drew) 0 0) (.inr (Nat.zero_le _))
 replace own_x0:=own_x0.keep (Out.of_below ((Below.refl W18.heap.size W18).drew) 0 0) (.inr (Nat.zero_le _))
 replace own_x1:=own_x1.keep (Out.of_below ((Below.refl W18.heap.size W18).drew) 0 0) (.inr (Nat.zero_le _))
 replace own_x4:=own_x4.keep (Out.of_below ((Below.refl W18.heap.size W18).drew) 0 0) (.inr (Nat.zero_le _))
 replace own_g0:=own_g0.keep (Out.of_below ((Below.refl W18.heap.size W18).drew) 0 0) (.inr (Nat.zero_le _))
 replace K_aD:=K_aD.drew
 replace K_aV:=K_aV.drew
 replace K_aItem:=K_aItem.drew
 replace K_w0:=K_w0.drew
 replace K_x0:=K_x0.drew
 replace K_x1:=K_x1.drew
 replace K_x4:=K_x4.drew
 replace K_g0:=K_g0.drew
 refine wp_region_held_drew (S:=(fun w9=> w9.cell? ⟨w.heap.size+1+1,0,none⟩=some (.int .i64 nn4)∧w9.cell? ⟨w.heap.size+1+1,1,none⟩=some (.slice Av4 bb4.length cv4)∧w9.cell? ⟨w.heap.size+1+1,2,none⟩=some (.slice Aw4 ll4.length cw4)∧w9.cell? ⟨W11.heap.size,0,none⟩=some (.int .i64 X4.n)∧w9.cell? ⟨W11.heap.size,1,none⟩=some (.slice Ap_x4 X4.b.length cp_x4)∧w9.cell? ⟨W11.heap.size,2,none⟩=some (.slice Aq_x4 X4.items.length cq_x4))) (by kernel_rfl) ?_ (fun hHeld=> ?_)
 ·(try dsimp only);exact ⟨c_aItem_0,c_aItem_1,c_aItem_2,c_x4_0,c_x4_1,c_x4_2⟩
 refine rgTake 0 (some 88) hHeld _ ?_;try go_frame
 refine rgTake 1 (some 89) hHeld _ ?_;try go_frame
 refine rgStep 2 (fun K hK=> ?_)
 go_simp
 refine (toV_law HV4.out.1 HV4.out.2 rfl (b18).drew hs4).mono ?_;rintro e W19 ⟨u_t5,rfl,own_t5,bel19⟩;have o_w0_t5:=u_w0;have o_x0_t5:=u_x0;have o_x1_t5:=u_x1;have o_x4_t5:=u_x4;have o_g0_t5:=u_g0;have ob_aD_t5:=v_aD;have ob_aV_t5:=v_aV;have ob_aItem_t5:=v_aItem;have ob_w0_t5:=v_w0;have ob_x0_t5:=v_x0;have ob_x1_t5:=v_x1;have ob_x4_t5:=v_x4;have ob_g0_t5:=v_g0;have pl_t5:=Lib.hid ((b18).drew).size;have b19:=below_step bel19 (b18).drew;replace u_w0:=Lib.hid (Nat.le_trans u_w0.out bel19.size);replace u_x0:=Lib.hid (Nat.le_trans u_x0.out bel19.size);replace u_x1:=Lib.hid (Nat.le_trans u_x1.out bel19.size);replace u_x4:=Lib.hid (Nat.le_trans u_x4.out bel19.size);replace u_g0:=Lib.hid (Nat.le_trans u_g0.out bel19.size);replace v_aD:=Lib.hid (Nat.lt_of_lt_of_le v_aD.out bel19.size);replace v_aV:=Lib.hid (Nat.lt_of_lt_of_le v_aV.out bel19.size);replace v_aItem:=Lib.hid (Nat.lt_of_lt_of_le v_aItem.out bel19.size);replace v_w0:=Lib.hid (Nat.lt_of_lt_of_le v_w0.out bel19.size);replace v_x0:=Lib.hid (Nat.lt_of_lt_of_le v_x0.out bel19.size);replace v_x1:=Lib.hid (Nat.lt_of_lt_of_le v_x1.out bel19.size);replace v_x4:=Lib.hid (Nat.lt_of_lt_of_le v_x4.out bel19.size);replace v_g0:=Lib.hid (Nat.lt_of_lt_of_le v_g0.out bel19.size);have u_t5:=Lib.hid (show W19.heap.size≤W19.heap.size from Nat.le_refl _);replace own_w0:=own_w0.keep (Out.of_below bel19 0 0) (.inr (Nat.zero_le _));replace own_x0:=own_x0.keep (Out.of_below bel19 0 0) (.inr (Nat.zero_le _));replace own_x1:=own_x1.keep (Out.of_below bel19 0 0) (.inr (Nat.zero_le _));replace own_x4:=own_x4.keep (Out.of_below bel19 0 0) (.inr (Nat.zero_le _));replace own_g0:=own_g0.keep (Out.of_below bel19 0 0) (.inr (Nat.zero_le _));replace c_aItem_0:=cell_later bel19 c_aItem_0;replace c_aItem_1:=cell_later bel19 c_aItem_1;replace c_aItem_2:=cell_later bel19 c_aItem_2;replace c_x4_0:=cell_later bel19 c_x4_0;replace c_x4_1:=cell_later bel19 c_x4_1;replace c_x4_2:=cell_later bel19 c_x4_2;replace K_aD:=K_aD.later bel19;replace K_aV:=K_aV.later bel19;replace K_aItem:=K_aItem.later bel19;replace K_w0:=K_w0.later bel19;replace K_x0:=K_x0.later bel19;replace K_x1:=K_x1.later bel19;replace K_x4:=K_x4.later bel19;replace K_g0:=K_g0.later bel19;obtain ⟨Ap_t5,cp_t5,Aq_t5,cq_t5,rfl⟩:=own_t5.agg
 (try go_wp2_with fail)
 refine hK.out _ _ ?_ (fun hHeld=> ?_)
 ·(try dsimp only);exact ⟨c_aItem_0,c_aItem_1,c_aItem_2,c_x4_0,c_x4_1,c_x4_2⟩
 clear hK K
 try go_frame
 refine rgStep 3 (fun K hK=> ?_)
 go_simp
 refine (eqV_law own_x4 own_t5).mono ?_;rintro e W20 ⟨rfl,bel20⟩;have b20:=below_step bel20 b19;replace u_w0:=Lib.hid (Nat.le_trans u_w0.out bel20.size);replace u_x0:=Lib.hid (Nat.le_trans u_x0.out bel20.size);replace u_x1:=Lib.hid (Nat.le_trans u_x1.out bel20.size);replace u_x4:=Lib.hid (Nat.le_trans u_x4.out bel20.size);replace u_g0:=Lib.hid (Nat.le_trans u_g0.out bel20.size);replace u_t5:=Lib.hid (Nat.le_trans u_t5.out bel20.size);replace v_aD:=Lib.hid (Nat.lt_of_lt_of_le v_aD.out bel20.size);replace v_aV:=Lib.hid (Nat.lt_of_lt_of_le v_aV.out bel20.size);replace v_aItem:=Lib.hid (Nat.lt_of_lt_of_le v_aItem.out bel20.size);replace v_w0:=Lib.hid (Nat.lt_of_lt_of_le v_w0.out bel20.size);replace v_x0:=Lib.hid (Nat.lt_of_lt_of_le v_x0.out bel20.size);replace v_x1:=Lib.hid (Nat.lt_of_lt_of_le v_x1.out bel20.size);replace v_x4:=Lib.hid (Nat.lt_of_lt_of_le v_x4.out bel20.size);replace v_g0:=Lib.hid (Nat.lt_of_lt_of_le v_g0.out bel20.size);replace own_w0:=own_w0.keep (Out.of_below bel20 0 0) (.inr (Nat.zero_le _));replace own_x0:=own_x0.keep (Out.of_below bel20 0 0) (.inr (Nat.zero_le _));replace own_x1:=own_x1.keep (Out.of_below bel20 0 0) (.inr (Nat.zero_le _));replace own_x4:=own_x4.keep (Out.of_below bel20 0 0) (.inr (Nat.zero_le _));replace own_g0:=own_g0.keep (Out.of_below bel20 0 0) (.inr (Nat.zero_le _));replace own_t5:=own_t5.keep (Out.of_below bel20 0 0) (.inr (Nat.zero_le _));replace c_aItem_0:=cell_later bel20 c_aItem_0;replace c_aItem_1:=cell_later bel20 c_aItem_1;replace c_aItem_2:=cell_later bel20 c_aItem_2;replace c_x4_0:=cell_later bel20 c_x4_0;replace c_x4_1:=cell_later bel20 c_x4_1;replace c_x4_2:=cell_later bel20 c_x4_2;replace K_aD:=K_aD.later bel20;replace K_aV:=K_aV.later bel20;replace K_aItem:=K_aItem.later bel20;replace K_w0:=K_w0.later bel20;replace K_x0:=K_x0.later bel20;replace K_x1:=K_x1.later bel20;replace K_x4:=K_x4.later bel20;replace K_g0:=K_g0.later bel20;clear own_t5
 (try go_wp2_with fail)
 refine hK.out _ _ ?_ (fun hHeld=> ?_)
 ·(try dsimp only);exact ⟨c_aItem_0,c_aItem_1,c_aItem_2,c_x4_0,c_x4_1,c_x4_2⟩
 clear hK K
 try go_frame
 refine rgTake 4 (some 92) hHeld _ ?_;try go_frame
 refine wpAnyH_done (by kernel_rfl) ?_ _
 clear c_aItem_0 c_aItem_1 c_aItem_2 c_x4_0 c_x4_1 c_x4_2
 have c_x0_0:=K_x0.c0
 go_wp2_with fail
 refine (markD_law own_x0 1 (by omega) (by omega) (by rw [←HD0.out,List.length_map];exact hs0.1) ok_0.out.sm).mono ?_
 rintro e W21 ⟨rr21,rfl,ge21,gk21,le21,out21⟩
 have b21:=Out.below out21 b20 pl_x0.out
 clear own_x0
 clear b20
 replace own_w0:=own_w0.keep out21 (.inl o_w0_x0.out)
 replace own_x1:=own_x1.keep out21 (.inr o_x0_x1.out)
 replace own_x4:=own_x4.keep out21 (.inr o_x0_x4.out)
 replace own_g0:=own_g0.keep out21 (.inr o_x0_g0.out)
 replace c_x0_0:W21.cell? ⟨W7.heap.size,0,none⟩=some (.slice A_x0 D0.length c_x0):=out21.cell (p:=⟨W7.heap.size,0,none⟩) c_x0_0 (.inr or_x0_x0.out)
 replace u_w0:=Lib.hid (Nat.le_trans u_w0.out out21.size)
 replace u_x0:=Lib.hid (Nat.le_trans u_x0.out out21.size)
 replace u_x1:=Lib.hid (Nat.le_trans u_x1.out out21.size)
 replace u_x4:=Lib.hid (Nat.le_trans u_x4.out out21.size)
 replace u_g0:=Lib.hid (Nat.le_trans u_g0.out out21.size)
 replace v_aD:=Lib.hid (Nat.lt_of_lt_of_le v_aD.out out21.size)
 replace v_aV:=Lib.hid (Nat.lt_of_lt_of_le v_aV.out out21.size)
 replace v_aItem:=Lib.hid (Nat.lt_of_lt_of_le v_aItem.out out21.size)
 replace v_w0:=Lib.hid (Nat.lt_of_lt_of_le v_w0.out out21.size)
 replace v_x0:=Lib.hid (Nat.lt_of_lt_of_le v_x0.out out21.size)
 replace v_x1:=Lib.hid (Nat.lt_of_lt_of_le v_x1.out out21.size)
 replace v_x4:=Lib.hid (Nat.lt_of_lt_of_le v_x4.out out21.size)
 replace v_g0:=Lib.hid (Nat.lt_of_lt_of_le v_g0.out out21.size)
 replace K_aD:=K_aD.out out21 (.inl ob_aD_x0.out)
 replace K_aV:=K_aV.out out21 (.inl ob_aV_x0.out)
 replace K_aItem:=K_aItem.out out21 (.inl ob_aItem_x0.out)
 replace K_w0:=K_w0.out out21 (.inl ob_w0_x0.out)
 replace K_x0:=K_x0.out out21 (.inr or_x0_x0.out)
 replace K_x1:=K_x1.out out21 (.inr or_x0_x1.out)
 replace K_x4:=K_x4.out out21 (.inr or_x0_x4.out)
 replace K_g0:=K_g0.out out21 (.inr or_x0_g0.out)
 clear c_x0_0
 have c_x1_0:=K_x1.c0
 have c_x1_1:=K_x1.c1
 have c_x1_2:=K_x1.c2
 go_wp2_with fail
 refine (markV_law own_x1 rr21 (by omega) (by omega)).mono ?_
 rintro e W22 ⟨rr22,rfl,re22,mk_x1,out22⟩
 obtain ⟨rg22,rl22⟩:(rr21:Int)≤rr22∧rr22≤(rr21:Int)+4194304:=by omega
 clear re22
 have b22:=Out.below out22 b21 pl_x1.out
 clear own_x1
 clear b21
 replace own_w0:=own_w0.keep out22 (.inl o_w0_x1.out)
 replace own_x4:=own_x4.keep out22 (.inr o_x1_x4.out)
 replace own_g0:=own_g0.keep out22 (.inr o_x1_g0.out)
 replace c_x1_0:W22.cell? ⟨W9.heap.size,0,none⟩=some (.int .i64 X1.n):=out22.cell (p:=⟨W9.heap.size,0,none⟩) c_x1_0 (.inr or_x1_x1.out)
 replace c_x1_1:W22.cell? ⟨W9.heap.size,1,none⟩=some (.slice Ap_x1 X1.b.length cp_x1):=out22.cell (p:=⟨W9.heap.size,1,none⟩) c_x1_1 (.inr or_x1_x1.out)
 replace c_x1_2:W22.cell? ⟨W9.heap.size,2,none⟩=some (.slice Aq_x1 X1.items.length cq_x1):=out22.cell (p:=⟨W9.heap.size,2,none⟩) c_x1_2 (.inr or_x1_x1.out)
 replace u_w0:=Lib.hid (Nat.le_trans u_w0.out out22.size)
 replace u_x1:=Lib.hid (Nat.le_trans u_x1.out out22.size)
 replace u_x4:=Lib.hid (Nat.le_trans u_x4.out out22.size)
 replace u_g0:=Lib.hid (Nat.le_trans u_g0.out out22.size)
 replace v_aD:=Lib.hid (Nat.lt_of_lt_of_le v_aD.out out22.size)
 replace v_aV:=Lib.hid (Nat.lt_of_lt_of_le v_aV.out out22.size)
 replace v_aItem:=Lib.hid (Nat.lt_of_lt_of_le v_aItem.out out22.size)
 replace v_w0:=Lib.hid (Nat.lt_of_lt_of_le v_w0.out out22.size)
 replace v_x0:=Lib.hid (Nat.lt_of_lt_of_le v_x0.out out22.size)
 replace v_x1:=Lib.hid (Nat.lt_of_lt_of_le v_x1.out out22.size)
 replace v_x4:=Lib.hid (Nat.lt_of_lt_of_le v_x4.out out22.size)
 replace v_g0:=Lib.hid (Nat.lt_of_lt_of_le v_g0.out out22.size)
 replace K_aD:=K_aD.out out22 (.inl ob_aD_x1.out)
 replace K_aV:=K_aV.out out22 (.inl ob_aV_x1.out)
 replace K_aItem:=K_aItem.out out22 (.inl ob_aItem_x1.out)
 replace K_w0:=K_w0.out out22 (.inl ob_w0_x1.out)
 replace K_x0:=K_x0.out out22 (.inl ob_x0_x1.out)
 replace K_x1:=K_x1.out out22 (.inr or_x1_x1.out)
 replace K_x4:=K_x4.out out22 (.inr or_x1_x4.out)
 replace K_g0:=K_g0.out out22 (.inr or_x1_g0.out)
 clear mk_x1
 clear c_x1_0 c_x1_1 c_x1_2
 have c_x4_0:=K_x4.c0
 have c_x4_1:=K_x4.c1
 have c_x4_2:=K_x4.c2
 go_wp2_with fail
 refine (markV_law own_x4 rr22 (by omega) (by omega)).mono ?_
 rintro e W23 ⟨rr23,rfl,re23,mk_x4,out23⟩
 obtain ⟨rg23,rl23⟩:(rr22:Int)≤rr23∧rr23≤(rr22:Int)+4194304:=by omega
 clear re23
 have b23:=Out.below out23 b22 pl_x4.out
 clear own_x4
 clear b22
 replace own_w0:=own_w0.keep out23 (.inl o_w0_x4.out)
 replace own_g0:=own_g0.keep out23 (.inr o_x4_g0.out)
 replace c_x4_0:W23.cell? ⟨W11.heap.size,0,none⟩=some (.int .i64 X4.n):=out23.cell (p:=⟨W11.heap.size,0,none⟩) c_x4_0 (.inr or_x4_x4.out)
 replace c_x4_1:W23.cell? ⟨W11.heap.size,1,none⟩=some (.slice Ap_x4 X4.b.length cp_x4):=out23.cell (p:=⟨W11.heap.size,1,none⟩) c_x4_1 (.inr or_x4_x4.out)
 replace c_x4_2:W23.cell? ⟨W11.heap.size,2,none⟩=some (.slice Aq_x4 X4.items.length cq_x4):=out23.cell (p:=⟨W11.heap.size,2,none⟩) c_x4_2 (.inr or_x4_x4.out)
 replace u_w0:=Lib.hid (Nat.le_trans u_w0.out out23.size)
 replace u_x4:=Lib.hid (Nat.le_trans u_x4.out out23.size)
 replace u_g0:=Lib.hid (Nat.le_trans u_g0.out out23.size)
 replace v_aD:=Lib.hid (Nat.lt_of_lt_of_le v_aD.out out23.size)
 replace v_aV:=Lib.hid (Nat.lt_of_lt_of_le v_aV.out out23.size)
 replace v_aItem:=Lib.hid (Nat.lt_of_lt_of_le v_aItem.out out23.size)
 replace v_w0:=Lib.hid (Nat.lt_of_lt_of_le v_w0.out out23.size)
 replace v_x0:=Lib.hid (Nat.lt_of_lt_of_le v_x0.out out23.size)
 replace v_x1:=Lib.hid (Nat.lt_of_lt_of_le v_x1.out out23.size)
 replace v_x4:=Lib.hid (Nat.lt_of_lt_of_le v_x4.out out23.size)
 replace v_g0:=Lib.hid (Nat.lt_of_lt_of_le v_g0.out out23.size)
 replace K_aD:=K_aD.out out23 (.inl ob_aD_x4.out)
 replace K_aV:=K_aV.out out23 (.inl ob_aV_x4.out)
 replace K_aItem:=K_aItem.out out23 (.inl ob_aItem_x4.out)
 replace K_w0:=K_w0.out out23 (.inl ob_w0_x4.out)
 replace K_x0:=K_x0.out out23 (.inl ob_x0_x4.out)
 replace K_x1:=K_x1.out out23 (.inl ob_x1_x4.out)
 replace K_x4:=K_x4.out out23 (.inr or_x4_x4.out)
 replace K_g0:=K_g0.out out23 (.inr or_x4_g0.out)
 clear mk_x4
 clear c_x4_0 c_x4_1 c_x4_2
 have c_w0_0:=K_w0.c0
 have c_w0_1:=K_w0.c1
 have c_w0_2:=K_w0.c2
 have c_g0_0:=K_g0.c0
 have c_g0_1:=K_g0.c1
 have c_g0_2:=K_g0.c2
 go_wp2_with fail
 refine (eqV_law own_g0 own_w0).mono ?_
 rintro e W24 ⟨rfl,bel24⟩
 have b24:=below_step bel24 b23
 replace u_w0:=Lib.hid (Nat.le_trans u_w0.out bel24.size)
 replace u_g0:=Lib.hid (Nat.le_trans u_g0.out bel24.size)
 replace v_aD:=Lib.hid (Nat.lt_of_lt_of_le v_aD.out bel24.size)
 replace v_aV:=Lib.hid (Nat.lt_of_lt_of_le v_aV.out bel24.size)
 replace v_aItem:=Lib.hid (Nat.lt_of_lt_of_le v_aItem.out bel24.size)
 replace v_w0:=Lib.hid (Nat.lt_of_lt_of_le v_w0.out bel24.size)
 replace v_x0:=Lib.hid (Nat.lt_of_lt_of_le v_x0.out bel24.size)
 replace v_x1:=Lib.hid (Nat.lt_of_lt_of_le v_x1.out bel24.size)
 replace v_x4:=Lib.hid (Nat.lt_of_lt_of_le v_x4.out bel24.size)
 replace v_g0:=Lib.hid (Nat.lt_of_lt_of_le v_g0.out bel24.size)
 replace own_w0:=own_w0.keep (Out.of_below bel24 0 0) (.inr (Nat.zero_le _))
 replace own_g0:=own_g0.keep (Out.of_below bel24 0 0) (.inr (Nat.zero_le _))
 replace c_w0_0:=cell_later bel24 c_w0_0
 replace c_w0_1:=cell_later bel24 c_w0_1
 replace c_w0_2:=cell_later bel24 c_w0_2
 replace c_g0_0:=cell_later bel24 c_g0_0
 replace c_g0_1:=cell_later bel24 c_g0_1
 replace c_g0_2:=cell_later bel24 c_g0_2
 replace K_aD:=K_aD.later bel24
 replace K_aV:=K_aV.later bel24
 replace K_aItem:=K_aItem.later bel24
 replace K_w0:=K_w0.later bel24
 replace K_x0:=K_x0.later bel24
 replace K_x1:=K_x1.later bel24
 replace K_x4:=K_x4.later bel24
 replace K_g0:=K_g0.later bel24
 clear bel24
 clear b23
 clear c_w0_0 c_w0_1 c_w0_2 c_g0_0 c_g0_1 c_g0_2
 have c_g0_0:=K_g0.c0
 have c_g0_1:=K_g0.c1
 have c_g0_2:=K_g0.c2
 go_wp2_with fail
 refine (markV_law own_g0 1 (by omega) (by omega)).mono ?_
 rintro e W25 ⟨rr25,rfl,re25,mk_g0,out25⟩
 obtain ⟨rg25,rl25⟩:(1:Int)≤rr25∧rr25≤(1:Int)+4194304:=by omega
 clear re25
 have b25:=Out.below out25 b24 pl_g0.out
 clear own_g0
 clear b24
 replace own_w0:=own_w0.keep out25 (.inl o_w0_g0.out)
 replace c_g0_0:W25.cell? ⟨bq_g0,0,none⟩=some (.int .i64 FX.n):=out25.cell (p:=⟨bq_g0,0,none⟩) c_g0_0 (.inr far_g0)
 replace c_g0_1:W25.cell? ⟨bq_g0,1,none⟩=some (.slice A_g0 FX.b.length c_g0):=out25.cell (p:=⟨bq_g0,1,none⟩) c_g0_1 (.inr far_g0)
 replace c_g0_2:W25.cell? ⟨bq_g0,2,none⟩=some (.slice A2_g0 FX.items.length c2_g0):=out25.cell (p:=⟨bq_g0,2,none⟩) c_g0_2 (.inr far_g0)
 replace u_w0:=Lib.hid (Nat.le_trans u_w0.out out25.size)
 replace u_g0:=Lib.hid (Nat.le_trans u_g0.out out25.size)
 replace v_aD:=Lib.hid (Nat.lt_of_lt_of_le v_aD.out out25.size)
 replace v_aV:=Lib.hid (Nat.lt_of_lt_of_le v_aV.out out25.size)
 replace v_aItem:=Lib.hid (Nat.lt_of_lt_of_le v_aItem.out out25.size)
 replace v_w0:=Lib.hid (Nat.lt_of_lt_of_le v_w0.out out25.size)
 replace v_x0:=Lib.hid (Nat.lt_of_lt_of_le v_x0.out out25.size)
 replace v_x1:=Lib.hid (Nat.lt_of_lt_of_le v_x1.out out25.size)
 replace v_x4:=Lib.hid (Nat.lt_of_lt_of_le v_x4.out out25.size)
 replace v_g0:=Lib.hid (Nat.lt_of_lt_of_le v_g0.out out25.size)
 replace K_aD:=K_aD.out out25 (.inl ob_aD_g0.out)
 replace K_aV:=K_aV.out out25 (.inl ob_aV_g0.out)
 replace K_aItem:=K_aItem.out out25 (.inl ob_aItem_g0.out)
 replace K_w0:=K_w0.out out25 (.inl ob_w0_g0.out)
 replace K_x0:=K_x0.out out25 (.inl ob_x0_g0.out)
 replace K_x1:=K_x1.out out25 (.inl ob_x1_g0.out)
 replace K_x4:=K_x4.out out25 (.inl ob_x4_g0.out)
 replace K_g0:=K_g0.out out25 (.inr far_g0)
 clear c_g0_0 c_g0_1 c_g0_2
 have c_g0_0:=K_g0.c0
 have c_g0_1:=K_g0.c1
 have c_g0_2:=K_g0.c2
 go_wp2_with fail
 refine (heldV_law mk_g0).mono ?_
 rintro e W26 ⟨rfl,bel26⟩
 have b26:=below_step bel26 b25
 replace u_w0:=Lib.hid (Nat.le_trans u_w0.out bel26.size)
 replace u_g0:=Lib.hid (Nat.le_trans u_g0.out bel26.size)
 replace v_aD:=Lib.hid (Nat.lt_of_lt_of_le v_aD.out bel26.size)
 replace v_aV:=Lib.hid (Nat.lt_of_lt_of_le v_aV.out bel26.size)
 replace v_aItem:=Lib.hid (Nat.lt_of_lt_of_le v_aItem.out bel26.size)
 replace v_w0:=Lib.hid (Nat.lt_of_lt_of_le v_w0.out bel26.size)
 replace v_x0:=Lib.hid (Nat.lt_of_lt_of_le v_x0.out bel26.size)
 replace v_x1:=Lib.hid (Nat.lt_of_lt_of_le v_x1.out bel26.size)
 replace v_x4:=Lib.hid (Nat.lt_of_lt_of_le v_x4.out bel26.size)
 replace v_g0:=Lib.hid (Nat.lt_of_lt_of_le v_g0.out bel26.size)
 replace own_w0:=own_w0.keep (Out.of_below bel26 0 0) (.inr (Nat.zero_le _))
 replace mk_g0:=mk_g0.keep (Out.of_below bel26 0 0) (.inr (Nat.zero_le _))
 replace c_g0_0:=cell_later bel26 c_g0_0
 replace c_g0_1:=cell_later bel26 c_g0_1
 replace c_g0_2:=cell_later bel26 c_g0_2
 replace K_aD:=K_aD.later bel26
 replace K_aV:=K_aV.later bel26
 replace K_aItem:=K_aItem.later bel26
 replace K_w0:=K_w0.later bel26
 replace K_x0:=K_x0.later bel26
 replace K_x1:=K_x1.later bel26
 replace K_x4:=K_x4.later bel26
 replace K_g0:=K_g0.later bel26
 clear bel26
 clear b25
 clear c_g0_0 c_g0_1 c_g0_2
 have c_aD_0:=K_aD.c0
 have c_aV_0:=K_aV.c0
 have c_aV_1:=K_aV.c1
 have c_aV_2:=K_aV.c2
 have c_aItem_0:=K_aItem.c0
 have c_aItem_1:=K_aItem.c1
 have c_aItem_2:=K_aItem.c2
 clear c_aD_0 c_aV_0 c_aV_1 c_aV_2 c_aItem_0 c_aItem_1 c_aItem_2
 (try clear o_g0_t3)
 (try clear o_g0_t4)
 (try clear o_g0_t5)
 (try clear o_w0_g0)
 (try clear o_w0_t3)
 (try clear o_w0_t4)
 (try clear o_w0_t5)
 (try clear o_w0_x0)
 (try clear o_w0_x1)
 (try clear o_w0_x4)
 (try clear o_x0_g0)
 (try clear o_x0_t3)
 (try clear o_x0_t4)
 (try clear o_x0_t5)
 (try clear o_x0_x1)
 (try clear o_x0_x4)
 (try clear o_x1_g0)
 (try clear o_x1_t3)
 (try clear o_x1_t4)
 (try clear o_x1_t5)
 (try clear o_x1_x4)
 (try clear o_x4_g0)
 (try clear o_x4_t3)
 (try clear o_x4_t4)
 (try clear o_x4_t5)
 (try clear ob_aD_g0)
 (try clear ob_aD_t3)
 (try clear ob_aD_t4)
 (try clear ob_aD_t5)
 (try clear ob_aD_w0)
 (try clear ob_aD_x0)
 (try clear ob_aD_x1)
 (try clear ob_aD_x4)
 (try clear ob_aItem_g0)
 (try clear ob_aItem_t3)
 (try clear ob_aItem_t4)
 (try clear ob_aItem_t5)
 (try clear ob_aItem_w0)
 (try clear ob_aItem_x0)
 (try clear ob_aItem_x1)
 (try clear ob_aItem_x4)
 (try clear ob_aV_g0)
 (try clear ob_aV_t3)
 (try clear ob_aV_t4)
 (try clear ob_aV_t5)
 (try clear ob_aV_w0)
 (try clear ob_aV_x0)
 (try clear ob_aV_x1)
 (try clear ob_aV_x4)
 (try clear ob_g0_t3)
 (try clear ob_g0_t4)
 (try clear ob_g0_t5)
 (try clear ob_w0_g0)
 (try clear ob_w0_t3)
 (try clear ob_w0_t4)
 (try clear ob_w0_t5)
 (try clear ob_w0_x0)
 (try clear ob_w0_x1)
 (try clear ob_w0_x4)
 (try clear ob_x0_g0)
 (try clear ob_x0_t3)
 (try clear ob_x0_t4)
 (try clear ob_x0_t5)
 (try clear ob_x0_x1)
 (try clear ob_x0_x4)
 (try clear ob_x1_g0)
 (try clear ob_x1_t3)
 (try clear ob_x1_t4)
 (try clear ob_x1_t5)
 (try clear ob_x1_x4)
 (try clear ob_x4_g0)
 (try clear ob_x4_t3)
 (try clear ob_x4_t4)
 (try clear ob_x4_t5)
 (try clear or_w0_g0)
 (try clear or_w0_x0)
 (try clear or_w0_x1)
 (try clear or_w0_x4)
 (try clear or_x0_g0)
 (try clear or_x0_x0)
 (try clear or_x0_x1)
 (try clear or_x0_x4)
 (try clear or_x1_g0)
 (try clear or_x1_x1)
 (try clear or_x1_x4)
 (try clear or_x4_g0)
 (try clear or_x4_x4)
 (try clear pl_g0)
 (try clear pl_t3)
 (try clear pl_t4)
 (try clear pl_t5)
 (try clear pl_w0)
 (try clear pl_x0)
 (try clear pl_x1)
 (try clear pl_x4)
 (try clear u_g0)
 (try clear u_t3)
 (try clear u_t4)
 (try clear u_t5)
 (try clear u_w0)
 (try clear u_x0)
 (try clear u_x1)
 (try clear u_x4)
 (try clear v_aD)
 (try clear v_aItem)
 (try clear v_aV)
 (try clear v_g0)
 (try clear v_w0)
 (try clear v_x0)
 (try clear v_x1)
 (try clear v_x4)
 clear K_x0
 clear K_x1
 clear K_x4
 have c_aD_0:=K_aD.c0
 have c_aV_0:=K_aV.c0
 have c_aV_1:=K_aV.c1
 have c_aV_2:=K_aV.c2
 have c_aItem_0:=K_aItem.c0
 have c_aItem_1:=K_aItem.c1
 have c_aItem_2:=K_aItem.c2
 go_upto_region 40 with fail
 go_cut [22,23] (fun s22 s23 wx=> ∃(bq:Nat) (A1:Option Addr) (c1:Nat) (A2:Option Addr) (c2 lo hi:Nat),s22= .pointer (some ⟨bq,0,none⟩)∧s23= .bool FB∧B3 wx bq (.int .i64 FX.n) (.slice A1 FX.b.length c1) (.slice A2 FX.items.length c2)∧OwV FX lo hi wx (.agg #[.int .i64 FX.n, .slice A1 FX.b.length c1, .slice A2 FX.items.length c2])∧W26.heap.size≤lo∧True∧hi≤wx.heap.size∧W26.heap.size≤bq∧Below W26.heap.size W26 wx)
 case first=>
  have bq:=(Below.refl W26.heap.size W26).drew
  go_wp2_with fail
  refine wp_region_held_drew (S:=(fun w9=> w9.cell? ⟨w.heap.size,0,none⟩=some (.slice Aa0 l0.length ca0)∧w9.cell? ⟨w.heap.size+1,0,none⟩=some (.int .i64 nn1)∧w9.cell? ⟨w.heap.size+1,1,none⟩=some (.slice Av1 bb1.length cv1)∧w9.cell? ⟨w.heap.size+1,2,none⟩=some (.slice Aw1 ll1.length cw1)∧w9.cell? ⟨w.heap.size+1+1,0,none⟩=some (.int .i64 nn4)∧w9.cell? ⟨w.heap.size+1+1,1,none⟩=some (.slice Av4 bb4.length cv4)∧w9.cell? ⟨w.heap.size+1+1,2,none⟩=some (.slice Aw4 ll4.length cw4))) (by kernel_rfl) ?_ (fun hHeld=> ?_)
  ·(try dsimp only);exact ⟨c_aD_0,c_aV_0,c_aV_1,c_aV_2,c_aItem_0,c_aItem_1,c_aItem_2⟩
  refine rgTake 0 (some 127) hHeld _ ?_;try go_frame
  refine rgTake 2 (some 129) hHeld _ ?_;try go_frame
  refine rgTake 4 (some 131) hHeld _ ?_;try go_frame
  refine rgTake 5 (some 132) hHeld _ ?_;try go_frame
  refine rgTake 6 (some 133) hHeld _ ?_;try go_frame
  refine rgTwo 1 12 (fun K hK=> ?_) (fun K hK=> ?_)
  ·go_simp
   refine (toD_law hA0 (below_step bq b26) hs0 HD0.out).mono ?_;rintro e wq ⟨t6,rfl,own_t6,bel⟩;replace bq:=below_step bel bq;(try have hgr:=zB.lt);(try have zB:=zB.later bel);obtain ⟨A_t6,c_t6,rfl⟩:=own_t6.slice
   (try go_wp2_with fail)
   refine hK.out _ _ ?_ (fun hHeld=> ?_)
   ·(try dsimp only);exact ⟨cell_later bq c_aD_0,cell_later bq c_aV_0,cell_later bq c_aV_1,cell_later bq c_aV_2,cell_later bq c_aItem_0,cell_later bq c_aItem_1,cell_later bq c_aItem_2⟩
   clear hK K
   try go_frame
   refine rgTwo 3 12 (fun K hK=> ?_) (fun K hK=> ?_)
   ·go_simp
    refine (toV_law HV1.out.1 HV1.out.2 rfl (below_step bq b26) hs1).mono ?_;rintro e wq ⟨u_t7,rfl,own_t7,bel⟩;replace bq:=below_step bel bq;replace own_t6:=own_t6.keep (Out.of_below bel 0 0) (.inr (Nat.zero_le _));(try have hgr:=zB.lt);(try have zB:=zB.later bel);obtain ⟨Ap_t7,cp_t7,Aq_t7,cq_t7,rfl⟩:=own_t7.agg
    (try go_wp2_with fail)
    refine hK.out _ _ ?_ (fun hHeld=> ?_)
    ·(try dsimp only);exact ⟨cell_later bq c_aD_0,cell_later bq c_aV_0,cell_later bq c_aV_1,cell_later bq c_aV_2,cell_later bq c_aItem_0,cell_later bq c_aItem_1,cell_later bq c_aItem_2⟩
    clear hK K
    try go_frame
    refine rgTwo 7 12 (fun K hK=> ?_) (fun K hK=> ?_)
    ·go_simp
     refine (toV_law HV4.out.1 HV4.out.2 rfl (below_step bq b26) hs4).mono ?_;rintro e wq ⟨u_t8,rfl,own_t8,bel⟩;replace bq:=below_step bel bq;replace own_t6:=own_t6.keep (Out.of_below bel 0 0) (.inr (Nat.zero_le _));replace own_t7:=own_t7.keep (Out.of_below bel 0 0) (.inr (Nat.zero_le _));(try have hgr:=zB.lt);(try have zB:=zB.later bel);obtain ⟨Ap_t8,cp_t8,Aq_t8,cq_t8,rfl⟩:=own_t8.agg
     (try go_wp2_with fail)
     refine hK.out _ _ ?_ (fun hHeld=> ?_)
     ·(try dsimp only);exact ⟨cell_later bq c_aD_0,cell_later bq c_aV_0,cell_later bq c_aV_1,cell_later bq c_aV_2,cell_later bq c_aItem_0,cell_later bq c_aItem_1,cell_later bq c_aItem_2⟩
     clear hK K
     try go_frame
     refine rgTwo 8 12 (fun K hK=> ?_) (fun K hK=> ?_)
     ·go_simp
      refine (implIns_law own_t6 ok_0.out own_t7 own_t8 hs1 hs4 hl2 HF.out.1 HTab.out (below_step bq b26)).mono ?_;rintro e wq ⟨vr,rfl,own_r,bel⟩;have hlo:=bq.size;replace bq:=below_step bel bq;(try have hgr:=zB.lt);(try have zB:=zB.later bel);obtain ⟨Ar1,cr1,Ar2,cr2,rfl⟩:=own_r.agg
      (try go_wp2_with fail)
      refine hK.out _ _ ?_ (fun hHeld=> ?_)
      ·(try dsimp only);exact ⟨cell_later bq c_aD_0,cell_later bq c_aV_0,cell_later bq c_aV_1,cell_later bq c_aV_2,cell_later bq c_aItem_0,cell_later bq c_aItem_1,cell_later bq c_aItem_2⟩
      clear hK K
      try go_frame
      refine rgTake 9 (some 126) hHeld _ ?_;try go_frame
      refine rgTake 10 (some 136) hHeld _ ?_;try go_frame
      refine rgTake 11 (some 137) hHeld _ ?_;try go_frame
      refine rgStep 12 (fun K hK=> ?_)
      (try go_simp)
      have hge:=bq.size;first|(have zB:=b3_zero bq;replace bq:=bq.alloc bq.size zO;(try have own_t6:=own_t6.bal zO);(try have own_t7:=own_t7.bal zO);(try have own_t8:=own_t8.bal zO);(try have own_r:=own_r.bal zO);generalize wq.alloc zO=wa at*)|(have zB:B3 (W26.alloc zO).drew W26.heap.size (.int .i64 0) (.slice none 0 0) (.slice none 0 0):=b3_zero bq;replace bq:Below W26.heap.size W26 (W26.alloc zO).drew:=bq.alloc bq.size zO;generalize (W26.alloc zO).drew=wa at*)
      refine hK.out _ _ ?_ (fun hHeld=> ?_)
      ·(try dsimp only);exact ⟨cell_later bq c_aD_0,cell_later bq c_aV_0,cell_later bq c_aV_1,cell_later bq c_aV_2,cell_later bq c_aItem_0,cell_later bq c_aItem_1,cell_later bq c_aItem_2⟩
      clear hK K
      try go_frame
      refine rgStep 13 (fun K hK=> ?_)
      (try go_simp)
      replace own_r:=own_r.set3 (by first|exact .inr hgr|exact .inl (Nat.le_refl _)) (.int .i64 FX.n) (.slice Ar1 FX.b.length cr1) (.slice Ar2 FX.items.length cr2);replace bq:=below_set3 bq hge (.int .i64 FX.n) (.slice Ar1 FX.b.length cr1) (.slice Ar2 FX.items.length cr2);have zB0:=zB;obtain ⟨zl,z0,z1,z2,y0,y1,y2⟩:=zB0;go_simp;replace zB:=zB.set (.int .i64 FX.n) (.slice Ar1 FX.b.length cr1) (.slice Ar2 FX.items.length cr2)
      refine hK.out _ _ ?_ (fun hHeld=> ?_)
      ·(try dsimp only);exact ⟨cell_later bq c_aD_0,cell_later bq c_aV_0,cell_later bq c_aV_1,cell_later bq c_aV_2,cell_later bq c_aItem_0,cell_later bq c_aItem_1,cell_later bq c_aItem_2⟩
      clear hK K
      try go_frame
      refine rgTake 14 (some 23) hHeld _ ?_;try go_frame
      refine wpAnyH_done (by kernel_rfl) ?_ _
      go_wp2_with fail
      go_meet
      exact ⟨_,_,_,_,_,_,_,rfl,rfl,zB,own_r,hlo,trivial,(by first|exact Nat.le_of_lt zB.lt|simp),hge,bq⟩
     ·(try go_simp)
      have hge:=bq.size;first|(have zB:=b3_zero bq;replace bq:=bq.alloc bq.size zO;(try have own_t6:=own_t6.bal zO);(try have own_t7:=own_t7.bal zO);(try have own_t8:=own_t8.bal zO);(try have own_r:=own_r.bal zO);generalize wq.alloc zO=wa at*)|(have zB:B3 (W26.alloc zO).drew W26.heap.size (.int .i64 0) (.slice none 0 0) (.slice none 0 0):=b3_zero bq;replace bq:Below W26.heap.size W26 (W26.alloc zO).drew:=bq.alloc bq.size zO;generalize (W26.alloc zO).drew=wa at*)
      refine hK.out _ _ ?_ (fun hHeld=> ?_)
      ·(try dsimp only);exact ⟨cell_later bq c_aD_0,cell_later bq c_aV_0,cell_later bq c_aV_1,cell_later bq c_aV_2,cell_later bq c_aItem_0,cell_later bq c_aItem_1,cell_later bq c_aItem_2⟩
      clear hK K
      try go_frame
      refine rgStep 8 (fun K hK=> ?_)
      go_simp
      refine (implIns_law own_t6 ok_0.out own_t7 own_t8 hs1 hs4 hl2 HF.out.1 HTab.out (below_step bq b26)).mono ?_;rintro e wq ⟨vr,rfl,own_r,bel⟩;have hlo:=bq.size;replace bq:=below_step bel bq;(try have hgr:=zB.lt);(try have zB:=zB.later bel);obtain ⟨Ar1,cr1,Ar2,cr2,rfl⟩:=own_r.agg
      (try go_wp2_with fail)
      refine hK.out _ _ ?_ (fun hHeld=> ?_)
      ·(try dsimp only);exact ⟨cell_later bq c_aD_0,cell_later bq c_aV_0,cell_later bq c_aV_1,cell_later bq c_aV_2,cell_later bq c_aItem_0,cell_later bq c_aItem_1,cell_later bq c_aItem_2⟩
      clear hK K
      try go_frame
      refine rgTake 9 (some 126) hHeld _ ?_;try go_frame
      refine rgTake 10 (some 136) hHeld _ ?_;try go_frame
      refine rgTake 11 (some 137) hHeld _ ?_;try go_frame
      refine rgStep 13 (fun K hK=> ?_)
      (try go_simp)
      replace own_r:=own_r.set3 (by first|exact .inr hgr|exact .inl (Nat.le_refl _)) (.int .i64 FX.n) (.slice Ar1 FX.b.length cr1) (.slice Ar2 FX.items.length cr2);replace bq:=below_set3 bq hge (.int .i64 FX.n) (.slice Ar1 FX.b.length cr1) (.slice Ar2 FX.items.length cr2);have zB0:=zB;obtain ⟨zl,z0,z1,z2,y0,y1,y2⟩:=zB0;go_simp;replace zB:=zB.set (.int .i64 FX.n) (.slice Ar1 FX.b.length cr1) (.slice Ar2 FX.items.length cr2)
      refine hK.out _ _ ?_ (fun hHeld=> ?_)
      ·(try dsimp only);exact ⟨cell_later bq c_aD_0,cell_later bq c_aV_0,cell_later bq c_aV_1,cell_later bq c_aV_2,cell_later bq c_aItem_0,cell_later bq c_aItem_1,cell_later bq c_aItem_2⟩
      clear hK K
      try go_frame
      refine rgTake 14 (some 23) hHeld _ ?_;try go_frame
      refine wpAnyH_done (by kernel_rfl) ?_ _
      go_wp2_with fail
      go_meet
      exact ⟨_,_,_,_,_,_,_,rfl,rfl,zB,own_r,hlo,trivial,(by first|exact Nat.le_of_lt zB.lt|simp),hge,bq⟩
    ·(try go_simp)
     have hge:=bq.size;first|(have zB:=b3_zero bq;replace bq:=bq.alloc bq.size zO;(try have own_t6:=own_t6.bal zO);(try have own_t7:=own_t7.bal zO);(try have own_t8:=own_t8.bal zO);(try have own_r:=own_r.bal zO);generalize wq.alloc zO=wa at*)|(have zB:B3 (W26.alloc zO).drew W26.heap.size (.int .i64 0) (.slice none 0 0) (.slice none 0 0):=b3_zero bq;replace bq:Below W26.heap.size W26 (W26.alloc zO).drew:=bq.alloc bq.size zO;generalize (W26.alloc zO).drew=wa at*)
     refine hK.out _ _ ?_ (fun hHeld=> ?_)
     ·(try dsimp only);exact ⟨cell_later bq c_aD_0,cell_later bq c_aV_0,cell_later bq c_aV_1,cell_later bq c_aV_2,cell_later bq c_aItem_0,cell_later bq c_aItem_1,cell_later bq c_aItem_2⟩
     clear hK K
     try go_frame
     refine rgStep 7 (fun K hK=> ?_)
     go_simp
     refine (toV_law HV4.out.1 HV4.out.2 rfl (below_step bq b26) hs4).mono ?_;rintro e wq ⟨u_t8,rfl,own_t8,bel⟩;replace bq:=below_step bel bq;replace own_t6:=own_t6.keep (Out.of_below bel 0 0) (.inr (Nat.zero_le _));replace own_t7:=own_t7.keep (Out.of_below bel 0 0) (.inr (Nat.zero_le _));(try have hgr:=zB.lt);(try have zB:=zB.later bel);obtain ⟨Ap_t8,cp_t8,Aq_t8,cq_t8,rfl⟩:=own_t8.agg
     (try go_wp2_with fail)
     refine hK.out _ _ ?_ (fun hHeld=> ?_)
     ·(try dsimp only);exact ⟨cell_later bq c_aD_0,cell_later bq c_aV_0,cell_later bq c_aV_1,cell_later bq c_aV_2,cell_later bq c_aItem_0,cell_later bq c_aItem_1,cell_later bq c_aItem_2⟩
     clear hK K
     try go_frame
     refine rgStep 8 (fun K hK=> ?_)
     go_simp
     refine (implIns_law own_t6 ok_0.out own_t7 own_t8 hs1 hs4 hl2 HF.out.1 HTab.out (below_step bq b26)).mono ?_;rintro e wq ⟨vr,rfl,own_r,bel⟩;have hlo:=bq.size;replace bq:=below_step bel bq;(try have hgr:=zB.lt);(try have zB:=zB.later bel);obtain ⟨Ar1,cr1,Ar2,cr2,rfl⟩:=own_r.agg
     (try go_wp2_with fail)
     refine hK.out _ _ ?_ (fun hHeld=> ?_)
     ·(try dsimp only);exact ⟨cell_later bq c_aD_0,cell_later bq c_aV_0,cell_later bq c_aV_1,cell_later bq c_aV_2,cell_later bq c_aItem_0,cell_later bq c_aItem_1,cell_later bq c_aItem_2⟩
     clear hK K
     try go_frame
     refine rgTake 9 (some 126) hHeld _ ?_;try go_frame
     refine rgTake 10 (some 136) hHeld _ ?_;try go_frame
     refine rgTake 11 (some 137) hHeld _ ?_;try go_frame
     refine rgStep 13 (fun K hK=> ?_)
     (try go_simp)
     replace own_r:=own_r.set3 (by first|exact .inr hgr|exact .inl (Nat.le_refl _)) (.int .i64 FX.n) (.slice Ar1 FX.b.length cr1) (.slice Ar2 FX.items.length cr2);replace bq:=below_set3 bq hge (.int .i64 FX.n) (.slice Ar1 FX.b.length cr1) (.slice Ar2 FX.items.length cr2);have zB0:=zB;obtain ⟨zl,z0,z1,z2,y0,y1,y2⟩:=zB0;go_simp;replace zB:=zB.set (.int .i64 FX.n) (.slice Ar1 FX.b.length cr1) (.slice Ar2 FX.items.length cr2)
     refine hK.out _ _ ?_ (fun hHeld=> ?_)
     ·(try dsimp only);exact ⟨cell_later bq c_aD_0,cell_later bq c_aV_0,cell_later bq c_aV_1,cell_later bq c_aV_2,cell_later bq c_aItem_0,cell_later bq c_aItem_1,cell_later bq c_aItem_2⟩
     clear hK K
     try go_frame
     refine rgTake 14 (some 23) hHeld _ ?_;try go_frame
     refine wpAnyH_done (by kernel_rfl) ?_ _
     go_wp2_with fail
     go_meet
     exact ⟨_,_,_,_,_,_,_,rfl,rfl,zB,own_r,hlo,trivial,(by first|exact Nat.le_of_lt zB.lt|simp),hge,bq⟩
   ·(try go_simp)
    have hge:=bq.size;first|(have zB:=b3_zero bq;replace bq:=bq.alloc bq.size zO;(try have own_t6:=own_t6.bal zO);(try have own_t7:=own_t7.bal zO);(try have own_t8:=own_t8.bal zO);(try have own_r:=own_r.bal zO);generalize wq.alloc zO=wa at*)|(have zB:B3 (W26.alloc zO).drew W26.heap.size (.int .i64 0) (.slice none 0 0) (.slice none 0 0):=b3_zero bq;replace bq:Below W26.heap.size W26 (W26.alloc zO).drew:=bq.alloc bq.size zO;generalize (W26.alloc zO).drew=wa at*)
    refine hK.out _ _ ?_ (fun hHeld=> ?_)
    ·(try dsimp only);exact ⟨cell_later bq c_aD_0,cell_later bq c_aV_0,cell_later bq c_aV_1,cell_later bq c_aV_2,cell_later bq c_aItem_0,cell_later bq c_aItem_1,cell_later bq c_aItem_2⟩
    clear hK K
    try go_frame
    refine rgStep 3 (fun K hK=> ?_)
    go_simp
    refine (toV_law HV1.out.1 HV1.out.2 rfl (below_step bq b26) hs1).mono ?_;rintro e wq ⟨u_t7,rfl,own_t7,bel⟩;replace bq:=below_step bel bq;replace own_t6:=own_t6.keep (Out.of_below bel 0 0) (.inr (Nat.zero_le _));(try have hgr:=zB.lt);(try have zB:=zB.later bel);obtain ⟨Ap_t7,cp_t7,Aq_t7,cq_t7,rfl⟩:=own_t7.agg
    (try go_wp2_with fail)
    refine hK.out _ _ ?_ (fun hHeld=> ?_)
    ·(try dsimp only);exact ⟨cell_later bq c_aD_0,cell_later bq c_aV_0,cell_later bq c_aV_1,cell_later bq c_aV_2,cell_later bq c_aItem_0,cell_later bq c_aItem_1,cell_later bq c_aItem_2⟩
    clear hK K
    try go_frame
    refine rgStep 7 (fun K hK=> ?_)
    go_simp
    refine (toV_law HV4.out.1 HV4.out.2 rfl (below_step bq b26) hs4).mono ?_;rintro e wq ⟨u_t8,rfl,own_t8,bel⟩;replace bq:=below_step bel bq;replace own_t6:=own_t6.keep (Out.of_below bel 0 0) (.inr (Nat.zero_le _));replace own_t7:=own_t7.keep (Out.of_below bel 0 0) (.inr (Nat.zero_le _));(try have hgr:=zB.lt);(try have zB:=zB.later bel);obtain ⟨Ap_t8,cp_t8,Aq_t8,cq_t8,rfl⟩:=own_t8.agg
    (try go_wp2_with fail)
    refine hK.out _ _ ?_ (fun hHeld=> ?_)
    ·(try dsimp only);exact ⟨cell_later bq c_aD_0,cell_later bq c_aV_0,cell_later bq c_aV_1,cell_later bq c_aV_2,cell_later bq c_aItem_0,cell_later bq c_aItem_1,cell_later bq c_aItem_2⟩
    clear hK K
    try go_frame
    refine rgStep 8 (fun K hK=> ?_)
    go_simp
    refine (implIns_law own_t6 ok_0.out own_t7 own_t8 hs1 hs4 hl2 HF.out.1 HTab.out (below_step bq b26)).mono ?_;rintro e wq ⟨vr,rfl,own_r,bel⟩;have hlo:=bq.size;replace bq:=below_step bel bq;(try have hgr:=zB.lt);(try have zB:=zB.later bel);obtain ⟨Ar1,cr1,Ar2,cr2,rfl⟩:=own_r.agg
    (try go_wp2_with fail)
    refine hK.out _ _ ?_ (fun hHeld=> ?_)
    ·(try dsimp only);exact ⟨cell_later bq c_aD_0,cell_later bq c_aV_0,cell_later bq c_aV_1,cell_later bq c_aV_2,cell_later bq c_aItem_0,cell_later bq c_aItem_1,cell_later bq c_aItem_2⟩
    clear hK K
    try go_frame
    refine rgTake 9 (some 126) hHeld _ ?_;try go_frame
    refine rgTake 10 (some 136) hHeld _ ?_;try go_frame
    refine rgTake 11 (some 137) hHeld _ ?_;try go_frame
    refine rgStep 13 (fun K hK=> ?_)
    (try go_simp)
    replace own_r:=own_r.set3 (by first|exact .inr hgr|exact .inl (Nat.le_refl _)) (.int .i64 FX.n) (.slice Ar1 FX.b.length cr1) (.slice Ar2 FX.items.length cr2);replace bq:=below_set3 bq hge (.int .i64 FX.n) (.slice Ar1 FX.b.length cr1) (.slice Ar2 FX.items.length cr2);have zB0:=zB;obtain ⟨zl,z0,z1,z2,y0,y1,y2⟩:=zB0;go_simp;replace zB:=zB.set (.int .i64 FX.n) (.slice Ar1 FX.b.length cr1) (.slice Ar2 FX.items.length cr2)
    refine hK.out _ _ ?_ (fun hHeld=> ?_)
    ·(try dsimp only);exact ⟨cell_later bq c_aD_0,cell_later bq c_aV_0,cell_later bq c_aV_1,cell_later bq c_aV_2,cell_later bq c_aItem_0,cell_later bq c_aItem_1,cell_later bq c_aItem_2⟩
    clear hK K
    try go_frame
    refine rgTake 14 (some 23) hHeld _ ?_;try go_frame
    refine wpAnyH_done (by kernel_rfl) ?_ _
    go_wp2_with fail
    go_meet
    exact ⟨_,_,_,_,_,_,_,rfl,rfl,zB,own_r,hlo,trivial,(by first|exact Nat.le_of_lt zB.lt|simp),hge,bq⟩
  ·(try go_simp)
   have hge:=bq.size;first|(have zB:=b3_zero bq;replace bq:=bq.alloc bq.size zO;(try have own_t6:=own_t6.bal zO);(try have own_t7:=own_t7.bal zO);(try have own_t8:=own_t8.bal zO);(try have own_r:=own_r.bal zO);generalize wq.alloc zO=wa at*)|(have zB:B3 (W26.alloc zO).drew W26.heap.size (.int .i64 0) (.slice none 0 0) (.slice none 0 0):=b3_zero bq;replace bq:Below W26.heap.size W26 (W26.alloc zO).drew:=bq.alloc bq.size zO;generalize (W26.alloc zO).drew=wa at*)
   refine hK.out _ _ ?_ (fun hHeld=> ?_)
   ·(try dsimp only);exact ⟨cell_later bq c_aD_0,cell_later bq c_aV_0,cell_later bq c_aV_1,cell_later bq c_aV_2,cell_later bq c_aItem_0,cell_later bq c_aItem_1,cell_later bq c_aItem_2⟩
   clear hK K
   try go_frame
   refine rgStep 1 (fun K hK=> ?_)
   go_simp
   refine (toD_law hA0 (below_step bq b26) hs0 HD0.out).mono ?_;rintro e wq ⟨t6,rfl,own_t6,bel⟩;replace bq:=below_step bel bq;(try have hgr:=zB.lt);(try have zB:=zB.later bel);obtain ⟨A_t6,c_t6,rfl⟩:=own_t6.slice
   (try go_wp2_with fail)
   refine hK.out _ _ ?_ (fun hHeld=> ?_)
   ·(try dsimp only);exact ⟨cell_later bq c_aD_0,cell_later bq c_aV_0,cell_later bq c_aV_1,cell_later bq c_aV_2,cell_later bq c_aItem_0,cell_later bq c_aItem_1,cell_later bq c_aItem_2⟩
   clear hK K
   try go_frame
   refine rgStep 3 (fun K hK=> ?_)
   go_simp
   refine (toV_law HV1.out.1 HV1.out.2 rfl (below_step bq b26) hs1).mono ?_;rintro e wq ⟨u_t7,rfl,own_t7,bel⟩;replace bq:=below_step bel bq;replace own_t6:=own_t6.keep (Out.of_below bel 0 0) (.inr (Nat.zero_le _));(try have hgr:=zB.lt);(try have zB:=zB.later bel);obtain ⟨Ap_t7,cp_t7,Aq_t7,cq_t7,rfl⟩:=own_t7.agg
   (try go_wp2_with fail)
   refine hK.out _ _ ?_ (fun hHeld=> ?_)
   ·(try dsimp only);exact ⟨cell_later bq c_aD_0,cell_later bq c_aV_0,cell_later bq c_aV_1,cell_later bq c_aV_2,cell_later bq c_aItem_0,cell_later bq c_aItem_1,cell_later bq c_aItem_2⟩
   clear hK K
   try go_frame
   refine rgStep 7 (fun K hK=> ?_)
   go_simp
   refine (toV_law HV4.out.1 HV4.out.2 rfl (below_step bq b26) hs4).mono ?_;rintro e wq ⟨u_t8,rfl,own_t8,bel⟩;replace bq:=below_step bel bq;replace own_t6:=own_t6.keep (Out.of_below bel 0 0) (.inr (Nat.zero_le _));replace own_t7:=own_t7.keep (Out.of_below bel 0 0) (.inr (Nat.zero_le _));(try have hgr:=zB.lt);(try have zB:=zB.later bel);obtain ⟨Ap_t8,cp_t8,Aq_t8,cq_t8,rfl⟩:=own_t8.agg
   (try go_wp2_with fail)
   refine hK.out _ _ ?_ (fun hHeld=> ?_)
   ·(try dsimp only);exact ⟨cell_later bq c_aD_0,cell_later bq c_aV_0,cell_later bq c_aV_1,cell_later bq c_aV_2,cell_later bq c_aItem_0,cell_later bq c_aItem_1,cell_later bq c_aItem_2⟩
   clear hK K
   try go_frame
   refine rgStep 8 (fun K hK=> ?_)
   go_simp
   refine (implIns_law own_t6 ok_0.out own_t7 own_t8 hs1 hs4 hl2 HF.out.1 HTab.out (below_step bq b26)).mono ?_;rintro e wq ⟨vr,rfl,own_r,bel⟩;have hlo:=bq.size;replace bq:=below_step bel bq;(try have hgr:=zB.lt);(try have zB:=zB.later bel);obtain ⟨Ar1,cr1,Ar2,cr2,rfl⟩:=own_r.agg
   (try go_wp2_with fail)
   refine hK.out _ _ ?_ (fun hHeld=> ?_)
   ·(try dsimp only);exact ⟨cell_later bq c_aD_0,cell_later bq c_aV_0,cell_later bq c_aV_1,cell_later bq c_aV_2,cell_later bq c_aItem_0,cell_later bq c_aItem_1,cell_later bq c_aItem_2⟩
   clear hK K
   try go_frame
   refine rgTake 9 (some 126) hHeld _ ?_;try go_frame
   refine rgTake 10 (some 136) hHeld _ ?_;try go_frame
   refine rgTake 11 (some 137) hHeld _ ?_;try go_frame
   refine rgStep 13 (fun K hK=> ?_)
   (try go_simp)
   replace own_r:=own_r.set3 (by first|exact .inr hgr|exact .inl (Nat.le_refl _)) (.int .i64 FX.n) (.slice Ar1 FX.b.length cr1) (.slice Ar2 FX.items.length cr2);replace bq:=below_set3 bq hge (.int .i64 FX.n) (.slice Ar1 FX.b.length cr1) (.slice Ar2 FX.items.length cr2);have zB0:=zB;obtain ⟨zl,z0,z1,z2,y0,y1,y2⟩:=zB0;go_simp;replace zB:=zB.set (.int .i64 FX.n) (.slice Ar1 FX.b.length cr1) (.slice Ar2 FX.items.length cr2)
   refine hK.out _ _ ?_ (fun hHeld=> ?_)
   ·(try dsimp only);exact ⟨cell_later bq c_aD_0,cell_later bq c_aV_0,cell_later bq c_aV_1,cell_later bq c_aV_2,cell_later bq c_aItem_0,cell_later bq c_aItem_1,cell_later bq c_aItem_2⟩
   clear hK K
   try go_frame
   refine rgTake 14 (some 23) hHeld _ ?_;try go_frame
   refine wpAnyH_done (by kernel_rfl) ?_ _
   go_wp2_with fail
   go_meet
   exact ⟨_,_,_,_,_,_,_,rfl,rfl,zB,own_r,hlo,trivial,(by first|exact Nat.le_of_lt zB.lt|simp),hge,bq⟩
 obtain ⟨bq_h0,A_h0,c_h0,A2_h0,c2_h0,lo_h0,hi_h0,rfl,rfl,zb_h0,own_h0,hlo_h0,far_h0,hhi_h0,hge_h0,bel27⟩:=hcut
 obtain ⟨W27,hWc⟩:∃W9:World,W9=wc:=⟨_,rfl⟩
 subst hWc
 have b27:=below_step bel27 b26
 replace own_w0:=own_w0.keep (Out.of_below bel27 0 0) (.inr (Nat.zero_le _))
 replace mk_g0:=mk_g0.keep (Out.of_below bel27 0 0) (.inr (Nat.zero_le _))
 replace c_aD_0:=cell_later bel27 c_aD_0
 replace c_aV_0:=cell_later bel27 c_aV_0
 replace c_aV_1:=cell_later bel27 c_aV_1
 replace c_aV_2:=cell_later bel27 c_aV_2
 replace c_aItem_0:=cell_later bel27 c_aItem_0
 replace c_aItem_1:=cell_later bel27 c_aItem_1
 replace c_aItem_2:=cell_later bel27 c_aItem_2
 replace K_aD:=K_aD.later bel27
 replace K_aV:=K_aV.later bel27
 replace K_aItem:=K_aItem.later bel27
 replace K_w0:=K_w0.later bel27
 replace K_g0:=K_g0.later bel27
 have K_h0:=zb_h0.k3
 clear zb_h0
 clear c_aD_0 c_aV_0 c_aV_1 c_aV_2 c_aItem_0 c_aItem_1 c_aItem_2
 have c_w0_0:=K_w0.c0
 have c_w0_1:=K_w0.c1
 have c_w0_2:=K_w0.c2
 have c_h0_0:=K_h0.c0
 have c_h0_1:=K_h0.c1
 have c_h0_2:=K_h0.c2
 go_wp2_with fail
 refine (eqV_law own_h0 own_w0).mono ?_
 rintro e W28 ⟨rfl,bel28⟩
 have b28:=below_step bel28 b27
 replace own_w0:=own_w0.keep (Out.of_below bel28 0 0) (.inr (Nat.zero_le _))
 replace mk_g0:=mk_g0.keep (Out.of_below bel28 0 0) (.inr (Nat.zero_le _))
 replace own_h0:=own_h0.keep (Out.of_below bel28 0 0) (.inr (Nat.zero_le _))
 replace c_w0_0:=cell_later bel28 c_w0_0
 replace c_w0_1:=cell_later bel28 c_w0_1
 replace c_w0_2:=cell_later bel28 c_w0_2
 replace c_h0_0:=cell_later bel28 c_h0_0
 replace c_h0_1:=cell_later bel28 c_h0_1
 replace c_h0_2:=cell_later bel28 c_h0_2
 replace K_aD:=K_aD.later bel28
 replace K_aV:=K_aV.later bel28
 replace K_aItem:=K_aItem.later bel28
 replace K_w0:=K_w0.later bel28
 replace K_g0:=K_g0.later bel28
 replace K_h0:=K_h0.later bel28
 clear bel28
 clear b27
 clear c_w0_0 c_w0_1 c_w0_2 c_h0_0 c_h0_1 c_h0_2
 have c_g0_0:=K_g0.c0
 have c_g0_1:=K_g0.c1
 have c_g0_2:=K_g0.c2
 go_wp2_with fail
 refine (heldV_law mk_g0).mono ?_
 rintro e W29 ⟨rfl,bel29⟩
 have b29:=below_step bel29 b28
 replace own_w0:=own_w0.keep (Out.of_below bel29 0 0) (.inr (Nat.zero_le _))
 replace mk_g0:=mk_g0.keep (Out.of_below bel29 0 0) (.inr (Nat.zero_le _))
 replace own_h0:=own_h0.keep (Out.of_below bel29 0 0) (.inr (Nat.zero_le _))
 replace c_g0_0:=cell_later bel29 c_g0_0
 replace c_g0_1:=cell_later bel29 c_g0_1
 replace c_g0_2:=cell_later bel29 c_g0_2
 replace K_aD:=K_aD.later bel29
 replace K_aV:=K_aV.later bel29
 replace K_aItem:=K_aItem.later bel29
 replace K_w0:=K_w0.later bel29
 replace K_g0:=K_g0.later bel29
 replace K_h0:=K_h0.later bel29
 clear bel29
 clear b28
 clear c_g0_0 c_g0_1 c_g0_2
 have HB:=Lib.hid b29
 clear own_w0 mk_g0 own_h0 hA0 ok0 hA2
 go_wp2
 go_ret
 exact ⟨rfl,HB.out⟩
end Go.Proofs.YtbmoeefnoiecaaaGreatDoor.FnExactInsertItem
