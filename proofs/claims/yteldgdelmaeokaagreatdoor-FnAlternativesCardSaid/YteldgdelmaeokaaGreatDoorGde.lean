/- Out of MkV5, MkV6, MkV7, MkV8, MkV9, MkV10, MkV: the walks and plain laws that the claim needs. No condition but those that each theorem names. -/
import Derived.Test.YteldgdelmaeokaaGreatDoorGdd
import Derived.Test.YteldgdelmaeokaaGreatDoorGda
import Derived.Test.YteldgdelmaeokaaGreatDoorGf
import Derived.IntWalk
import Derived.WalkSpells
import Derived.Deep.RegionHeld3
import Derived.Deep.DeepCutAuto
import Derived.WalkLawsBesides
set_option linter.unusedSimpArgs false
set_option linter.unusedVariables false
set_option maxHeartbeats 4000000
set_option maxRecDepth 100000
namespace Go.Proofs.YteldgdelmaeokaaGreatDoor
open Go.Proofs.Tryz Go.RowKit
theorem l9Make_5 (b lo B:Nat) (v vD:Value) (l:List UInt8) (L:List RM) (k M:Nat) (w:World) (h:Qo b v l w) (hd:Zy lo B (fun w'=> Qz w' B vD L) w) (hlo:b < lo) (hB:B≤w.heap.size) (hD:Ud (L.map RM.d)) (h9:L.length≤9) (hk:k < L.length) (hM:M≤1000) (hkind:L[k].d.kind=5) (ih:∀j,j < k→MkVC b lo B v l vD L j):
  Calls prog 22 #[.pointer (some ⟨b,0,none⟩), .agg #[vD], .int .i64 k, .int .i64 M] w (Rr b v l L k w):=by
 have hlm:(L.map RM.d).length=L.length:=List.length_map ..
 have hkD:k < (L.map RM.d).length:=by rw [hlm];exact hk
 have hge:(L.map RM.d)[k]=L[k].d:=List.getElem_map ..
 have RU:=Fs (hD.ruK (by rw [hlm];exact h9) hkD)
 obtain ⟨A,c,rfl,hc,hm, -⟩:=hd.now.open_
 have hRC:=Zw hd.now k hk
 obtain ⟨b0,off,A1,c1,A2,c2,A3,c3,A4,c4,rfl,hbB,e1,e2,e3,e4,m1,m2,m3,m4,hcell⟩:=hRC
 unfold maxLen at hm
 have hbw:=h.lt
 obtain ⟨W0,hW0⟩:∃W0,W0=(w.alloc (.cells #[.slice (some ⟨b0,off,none⟩) L.length c] 26)).alloc (.cells #[.int .i64 0, .slice none 0 0, .slice none 0 0] 29):=⟨_,rfl⟩
 have hb0:Below w.heap.size w W0:=by rw [hW0];exact ((Fv w.heap.size w).alloc (Fu _) _).alloc (by simp) _
 have hz0:W0.heap.size=w.heap.size+2:=by rw [hW0];simp
 have D0:Zo W0 w.heap.size 26 #[.slice (some ⟨b0,off,none⟩) L.length c]:=by rw [hW0];exact (Zo.new w _ _).alloc _
 have R0:Zo W0 (w.heap.size+1) 29 #[.int .i64 0, .slice none 0 0, .slice none 0 0]:=by
  rw [hW0]
  have:=Zo.new (w.alloc (.cells #[.slice (some ⟨b0,off,none⟩) L.length c] 26)) 29 #[.int .i64 0, .slice none 0 0, .slice none 0 0]
  simpa using this
 have s0:W0.cell? ⟨w.heap.size,0,none⟩=some (.slice (some ⟨b0,off,none⟩) L.length c):=D0.cell 0 rfl
 obtain ⟨x0,x1,x2,x3,x4,x5,x6,x7⟩:=hcell W0 (Zu hb0 hB)
 rw [hkind] at x1
 obtain ⟨W3,hW3⟩:∃W3,W3=(W0.alloc (.cells #[.string L[k].d.name, .int .i64 5, .int .i64 L[k].d.size, .bool L[k].d.little, .slice A1 L[k].d.bytes.length c1, .slice A2 L[k].d.names.length c2, .slice A3 L[k].d.tags.length c3, .slice A4 L[k].d.kids.length c4] 50)).alloc (.cells #[.int .i64 0, .slice none 0 0, .slice none 0 0] 29):=⟨_,rfl⟩
 have hb3:Below W0.heap.size W0 W3:=by rw [hW3];exact ((Fv W0.heap.size W0).alloc (Fu _) _).alloc (by simp) _
 have hb3':=Zb hb3 hb0
 have H3:Tf b lo B v l (.slice (some ⟨b0,off,none⟩) L.length c) L k w #[.string L[k].d.name, .int .i64 5, .int .i64 L[k].d.size, .bool L[k].d.little, .slice A1 L[k].d.bytes.length c1, .slice A2 L[k].d.names.length c2, .slice A3 L[k].d.tags.length c3, .slice A4 L[k].d.kids.length c4] 0 [] (.slice none 0 0) (.slice none 0 0) [] W3:=by
  refine ⟨h.below hb3',hd.below hb3',Qx.of_below hb3',D0.below hb3,R0.below hb3,?_,?_,Qg.mk0 (World.ownsRow_nil _ _ _ _) (World.ownsRow_nil _ _ _ _) (fun e=> by cases e) (fun e=> by cases e) (fun g e=> by cases e),hbw,hlo,hB,by rw [hW3];simp;omega⟩
  ·rw [hW3,←hz0];exact (Zo.new W0 _ _).alloc _
  ·rw [hW3]
   have:=Zo.new (W0.alloc (.cells #[.string L[k].d.name, .int .i64 5, .int .i64 L[k].d.size, .bool L[k].d.little, .slice A1 L[k].d.bytes.length c1, .slice A2 L[k].d.names.length c2, .slice A3 L[k].d.tags.length c3, .slice A4 L[k].d.kids.length c4] 50)) 29 #[.int .i64 0, .slice none 0 0, .slice none 0 0]
   simp only [World.size_alloc,hz0] at this
   exact this
 have HV:=Fs (Ft hd (Ft hcell (Ft e1 (Ft e2 (Ft e3 e4)))))
 have HD:=Fs hD
 have hkl:=hk
 unfold maxLen at m1 m2 m3 m4
 clear h hd hD D0 R0 hb3 hb3' hcell e1 e2 e3 e4
 go_enter func22,ntmps22
 go_upto_region 1 with fail
 rw [←hW0]
 clear hW0 hb0
 go_upto_region 3 with fail
 rw [←hW3]
 clear hW3 s0 x0 x1 x2 x3 x4 x5 x6 x7
 have HZ:=Fs (Ft hz0 hB)
 clear hz0
 obtain ⟨i0,hi,hz0,hz1,hz2⟩:=info_parts info_value
 obtain ⟨hk2',hval⟩:=val5 RU.out (by rw [hge];exact hkind)
 simp only [hge] at hk2' hval
 have HVL:=Fs hval
 clear hval
 obtain ⟨q,hq0,hq⟩:=RU.out.kidN (j:=1) (by rw [hge];exact hk2')
 simp only [hge] at hq0
 obtain ⟨bk,fk,hA4,hbk0,hkc⟩:=kidS HV.out.1 hk HV.out.2.2.2.2.2 hk2'
 subst hA4
 have hbz:bk < w.heap.size:=Ea hbk0 HZ.out.2
 rw [hq0] at hkc
 have hkc:=Fs hkc
 have hk2i:(1:Int) < (L[k].d.kids.length:Int):=by omega
 obtain ⟨⟨q0,q1,q2,q3,q4,q5,q6,q7⟩,f0,f1,f2,f3,f4,f5,f6,f7⟩:=H3.rbox.c8
 obtain ⟨⟨r0,r1,r2⟩,e0,e1,e2⟩:=H3.res.c3
 obtain ⟨⟨p0,p1,p2⟩,g0,g1,g2⟩:=H3.vbox.c3
 go_wp2_with fail
 refine (Yy _ _ _).mono ?_
 rintro e w1 ⟨rfl,rfl⟩
 obtain ⟨mm,hmm⟩:∃mm:Nat,(mm:Int)=min (M:Int) 3:=⟨(min (M:Int) 3).toNat,by omega⟩
 rw [←hmm]
 have hm3:mm≤3:=by omega
 clear hmm
 go_wp2_with fail
 refine (Qn b b v l (mm+1) W3 H3.cur (by omega) (by omega)).mono ?_
 rintro e w4 ⟨⟨z,rfl,hz0',hz1'⟩,hs,hzq,hc3⟩
 obtain ⟨zn,rfl⟩:=Int.eq_ofNat_of_zero_le hz0'
 have hzn3:zn≤3:=by omega
 have H4:=Fs (H3.step hs hc3)
 clear hzq hs hc3 H3 hz0' hz1' q0 q1 q2 q3 q4 q5 q6 q7 f0 f1 f2 f3 f4 f5 f6 f7 r0 r1 r2 e0 e1 e2 p0 p1 p2 g0 g1 g2
 go_wp2
 go_loopw [11] (fun i wr=> ∃(j:Nat) (Dl:List VM) (Ai:Option Addr) (ci:Nat),i= .int .i64 j∧Dl.length+j≤3∧(∀y∈Dl,Zn (L.map RM.d) q y.d=true∧y.d.size≤sB q)∧Tf b lo B v l (.slice (some ⟨b0,off,none⟩) L.length c) L k w #[.string L[k].d.name, .int .i64 5, .int .i64 L[k].d.size, .bool L[k].d.little, .slice A1 L[k].d.bytes.length c1, .slice A2 L[k].d.names.length c2, .slice A3 L[k].d.tags.length c3, .slice (some ⟨bk,fk,none⟩) L[k].d.kids.length c4] 0 [] (.slice none 0 0) (.slice Ai Dl.length ci) Dl wr) (fun i _=> (intOf i).natAbs)
 case atStart=> exact ⟨zn, [],none,0,rfl,by simpa using hzn3,by simp,H4.out⟩
 case round=>
  clear H4 hzn3
  obtain ⟨j,Dl,Ai,ci,rfl,hj3,hall,hvk⟩:=hrel
  have HAL:=Fs hall
  clear hall
  by_cases hj0:j=0
  ·subst hj0
   have H4:=Fs hvk
   clear hvk
   obtain ⟨⟨q0,q1,q2,q3,q4,q5,q6,q7⟩,f0,f1,f2,f3,f4,f5,f6,f7⟩:=H4.out.rbox.c8
   obtain ⟨⟨r0,r1,r2⟩,e0,e1,e2⟩:=H4.out.res.c3
   obtain ⟨⟨p0,p1,p2⟩,g0,g1,g2⟩:=H4.out.vbox.c3
   go_wp2
   obtain ⟨Wf,hWf,hR,hgo,hcu,⟨x,hxd,hxv,hxo⟩,hsz⟩:=(H4.out).fin
   rw [←hWf]
   obtain ⟨⟨t0,t1,t2⟩, -⟩:=hR.c3
   refine bodyPost_ret (v:= .agg #[.int .i64 0, .slice none 0 0, .slice Ai Dl.length ci]) (by simp [results,results22,go_sem,t0,t1,t2]) rfl ⟨x,by rw [hxv],by rw [hxd];exact HVL.out (Dl.map VM.d) (by simpa using hj3) (fun x hx=> by obtain ⟨y,hy,rfl⟩:=List.mem_map.1 hx;rw [hq0];exact (HAL.out y hy).1),by rw [hxd];exact Yk (by simp) (by simpa using hj3) (.inr (by omega)) (fun x hx=> by obtain ⟨y,hy,rfl⟩:=List.mem_map.1 hx;exact Nat.le_trans (HAL.out y hy).2 (Th (by omega))),hxo,hgo,hcu⟩
  ·have hpos:(0:Int) < j:=by omega
   have hdl3:Dl.length≤3:=by omega
   have HX:=Fs hvk.drew
   clear hvk
   go_wp2_with fail
   refine Qr (S:=(fun w9=> w9.cell? ⟨w.heap.size,0,none⟩=some (.slice (some ⟨b0,off,none⟩) L.length c)∧w9.cell? ⟨w.heap.size+2,7,none⟩=some (.slice (some ⟨bk,fk,none⟩) L[k].d.kids.length c4)∧w9.cell? ⟨bk,fk+1,none⟩=some (.int .i64 q)∧w9.cell? ⟨w.heap.size+3,2,none⟩=some (.slice Ai Dl.length ci))) 14 (by kernel_rfl) ?_ (fun hHeld=> ?_)
   ·(try dsimp only);exact ⟨HX.out.dbox.cell 0 rfl,HX.out.rbox.cell 7 rfl,hkc.out _ HX.out.st,HX.out.vbox.cell 2 rfl⟩
   refine Zt 0 (some 85) hHeld _ ?_;try go_frame
   refine Zt 1 (some 86) hHeld _ ?_;try go_frame
   refine Zt 2 (some 87) hHeld _ ?_;try go_frame
   refine Zt 3 (some 88) hHeld _ ?_;try go_frame
   refine Zt 4 (some 89) hHeld _ ?_;try go_frame
   refine Zt 5 (some 90) hHeld _ ?_;try go_frame
   refine Zt 6 (some 91) hHeld _ ?_;try go_frame
   refine Zt 7 (some 92) hHeld _ ?_;try go_frame
   refine Zt 8 (some 93) hHeld _ ?_;try go_frame
   refine Zt 9 (some 94) hHeld _ ?_;try go_frame
   refine Qw 10 (fun K hK=> ?_)
   go_simp
   have HP:=HX;have hzx:=HX.out.hz;rw [show IntKind.i64.wrap ((M:Int) / 2)=((M / 2:Nat):Int) from by rw [IntWalk.i64_in _ (by omega)];omega];refine (ih q hq (M / 2) _ HX.out.cur HX.out.st (by have:=HX.out.hB;omega) (by omega)).mono ?_;rintro e X2 ⟨y,rfl,hyv,hys,hyo,hgo,hcu⟩;obtain ⟨A5,c5,e5, -⟩:=hyo.own.rd.bytes.open_;obtain ⟨A6,c6,e6, -⟩:=hyo.own.rd.its.open_;have hgz:=hgo.size;have HX:=Fs (HX.out.step hgo hcu);have HY:=Fs (Ft hyv (Ft hys (Ft hyo (Ft e5 e6))));have HG:=Fs (Ft hgo hcu);clear hgo hcu hyv hys hyo;unfold Qs;rw [e5,e6];clear e5 e6
   (try go_wp2_with fail)
   refine hK.out _ _ ?_ (fun hHeld=> ?_)
   ·(try dsimp only);first|exact ⟨hk1,hk2,hk3,hk4⟩|exact ⟨HX.out.dbox.cell 0 rfl,HX.out.rbox.cell 7 rfl,hkc.out _ HX.out.st,HX.out.vbox.cell 2 rfl⟩
   clear hK K
   try go_frame
   refine Qw 11 (fun K hK=> ?_)
   (try go_simp)
   obtain ⟨X3,hX3⟩:∃V,V=X2.alloc (.cells #[.int .i64 y.n, .slice A5 y.b.length c5, .slice A6 y.items.length c6] 29):=⟨_,rfl⟩;rw [←hX3];have hbl:Below X2.heap.size X2 X3:=(by rw [hX3];exact (Fv _ _).alloc (Fu _) _);have hsl:=Fs (show Sl X3 (X2.heap.size+1) 3 (.slice (some ⟨X2.heap.size,0,none⟩) 1 1) 1 (Ze y) by rw [hX3];exact Tj (xs:=Ze y) (by unfold Ze;rw [HY.out.2.2.2.1,HY.out.2.2.2.2];exact Zo.new X2 _ _) rfl (Nat.lt_succ_self _));have HX:=Fs (HX.out.below hbl);have HA:=Fs hbl;clear hX3 hbl
   refine hK.out _ _ ?_ (fun hHeld=> ?_)
   ·(try dsimp only);first|exact ⟨hk1,hk2,hk3,hk4⟩|exact ⟨HX.out.dbox.cell 0 rfl,HX.out.rbox.cell 7 rfl,hkc.out _ HX.out.st,HX.out.vbox.cell 2 rfl⟩
   clear hK K
   try go_frame
   refine Qw 12 (fun K hK=> ?_)
   refine Je _ (.tmp 86) (.tmp 96) 27 rfl (w.heap.size+4) 29 i0 (.agg #[.int .i64 0, .slice none 0 0, .slice none 0 0]) 3 56 underlying27 hi hz0 hz1 hz2 rfl (by decide) _ Dl.length (Dl.flatMap Ze) rfl (by exact HX.out.gr.row) _ 1 _ (Ze y) rfl (by exact hsl.out) (Yl HY.out.2.2.2.1 HY.out.2.2.2.2) (by omega) (by unfold maxLen;omega) HX.out.hz ?_;intro v2 X6 own2 hg2 hv2;obtain ⟨An,cn,rfl⟩:=Zq own2;have HM:=Fs (HP.out.app HY.out.2.2.1 HG.out.1 HG.out.2 HA.out own2 hg2 hv2);clear own2 hg2 hv2;have hk1:X6.cell? ⟨w.heap.size,0,none⟩=some (.slice (some ⟨b0,off,none⟩) L.length c):=HM.out.1.1.cell 0 rfl;have hk2:X6.cell? ⟨w.heap.size+2,7,none⟩=some (.slice (some ⟨bk,fk,none⟩) L[k].d.kids.length c4):=HM.out.1.2.1.cell 7 rfl;have hk3:=hkc.out _ HM.out.1.2.2.2;have hk4:X6.cell? ⟨w.heap.size+3,2,none⟩=some (.slice Ai Dl.length ci):=HM.out.1.2.2.1.cell 2 rfl;have hk5:=HM.out.1.2.2.1.frozen 2
   refine hK.out _ _ ?_ (fun hHeld=> ?_)
   ·(try dsimp only);first|exact ⟨hk1,hk2,hk3,hk4⟩|exact ⟨HX.out.dbox.cell 0 rfl,HX.out.rbox.cell 7 rfl,hkc.out _ HX.out.st,HX.out.vbox.cell 2 rfl⟩
   clear hK K
   try go_frame
   refine Zt 13 (some 98) hHeld _ ?_;try go_frame
   refine Uz (fun K hK=> ?_)
   (try go_simp)
   refine hK.out _ _ ?_
   clear hK K
   try go_frame
   refine Js (by kernel_rfl) ?_ _
   obtain ⟨X7,hX7⟩:∃V,V=X6.setCell ⟨w.heap.size+3,2,none⟩ (.slice An (Dl.length+1) cn):=⟨_,rfl⟩
   rw [←hX7]
   have HQ:=Fs (by rw [hX7];simpa using HM.out.2:Tf b lo B v l (.slice (some ⟨b0,off,none⟩) L.length c) L k w #[.string L[k].d.name, .int .i64 5, .int .i64 L[k].d.size, .bool L[k].d.little, .slice A1 L[k].d.bytes.length c1, .slice A2 L[k].d.names.length c2, .slice A3 L[k].d.tags.length c3, .slice (some ⟨bk,fk,none⟩) L[k].d.kids.length c4] 0 [] (.slice none 0 0) (.slice An (Dl++ [y]).length cn) (Dl++ [y]) X7)
   clear hX7 HX hk1 hk2 hk3 hk4 hk5 HM HP HA HG hsl
   go_wp2
   go_roundw
   case rel=> exact ⟨j - 1,Dl++ [y],_,_,by congr 1;go_num,by simp;omega,fun x hx=> by
    rcases List.mem_append.1 hx with h|h
    ·exact HAL.out x h
    ·simp only [List.mem_singleton] at h;subst h;exact ⟨HY.out.1,HY.out.2.1⟩,HQ.out⟩
   case measure=> simp [intOf];omega
theorem l9Make_6 (b lo B:Nat) (v vD:Value) (l:List UInt8) (L:List RM) (k M:Nat) (w:World) (h:Qo b v l w) (hd:Zy lo B (fun w'=> Qz w' B vD L) w) (hlo:b < lo) (hB:B≤w.heap.size) (hD:Ud (L.map RM.d)) (h9:L.length≤9) (hk:k < L.length) (hM:M≤1000) (hkind:L[k].d.kind=6) (ih:∀j,j < k→MkVC b lo B v l vD L j):
  Calls prog 22 #[.pointer (some ⟨b,0,none⟩), .agg #[vD], .int .i64 k, .int .i64 M] w (Rr b v l L k w):=by
 have hlm:(L.map RM.d).length=L.length:=List.length_map ..
 have hkD:k < (L.map RM.d).length:=by rw [hlm];exact hk
 have hge:(L.map RM.d)[k]=L[k].d:=List.getElem_map ..
 have RU:=Fs (hD.ruK (by rw [hlm];exact h9) hkD)
 obtain ⟨A,c,rfl,hc,hm, -⟩:=hd.now.open_
 have hRC:=Zw hd.now k hk
 obtain ⟨b0,off,A1,c1,A2,c2,A3,c3,A4,c4,rfl,hbB,e1,e2,e3,e4,m1,m2,m3,m4,hcell⟩:=hRC
 unfold maxLen at hm
 have hbw:=h.lt
 obtain ⟨W0,hW0⟩:∃W0,W0=(w.alloc (.cells #[.slice (some ⟨b0,off,none⟩) L.length c] 26)).alloc (.cells #[.int .i64 0, .slice none 0 0, .slice none 0 0] 29):=⟨_,rfl⟩
 have hb0:Below w.heap.size w W0:=by rw [hW0];exact ((Fv w.heap.size w).alloc (Fu _) _).alloc (by simp) _
 have hz0:W0.heap.size=w.heap.size+2:=by rw [hW0];simp
 have D0:Zo W0 w.heap.size 26 #[.slice (some ⟨b0,off,none⟩) L.length c]:=by rw [hW0];exact (Zo.new w _ _).alloc _
 have R0:Zo W0 (w.heap.size+1) 29 #[.int .i64 0, .slice none 0 0, .slice none 0 0]:=by
  rw [hW0]
  have:=Zo.new (w.alloc (.cells #[.slice (some ⟨b0,off,none⟩) L.length c] 26)) 29 #[.int .i64 0, .slice none 0 0, .slice none 0 0]
  simpa using this
 have s0:W0.cell? ⟨w.heap.size,0,none⟩=some (.slice (some ⟨b0,off,none⟩) L.length c):=D0.cell 0 rfl
 obtain ⟨x0,x1,x2,x3,x4,x5,x6,x7⟩:=hcell W0 (Zu hb0 hB)
 rw [hkind] at x1
 obtain ⟨W3,hW3⟩:∃W3,W3=(W0.alloc (.cells #[.string L[k].d.name, .int .i64 6, .int .i64 L[k].d.size, .bool L[k].d.little, .slice A1 L[k].d.bytes.length c1, .slice A2 L[k].d.names.length c2, .slice A3 L[k].d.tags.length c3, .slice A4 L[k].d.kids.length c4] 50)).alloc (.cells #[.int .i64 0, .slice none 0 0, .slice none 0 0] 29):=⟨_,rfl⟩
 have hb3:Below W0.heap.size W0 W3:=by rw [hW3];exact ((Fv W0.heap.size W0).alloc (Fu _) _).alloc (by simp) _
 have hb3':=Zb hb3 hb0
 have H3:Tf b lo B v l (.slice (some ⟨b0,off,none⟩) L.length c) L k w #[.string L[k].d.name, .int .i64 6, .int .i64 L[k].d.size, .bool L[k].d.little, .slice A1 L[k].d.bytes.length c1, .slice A2 L[k].d.names.length c2, .slice A3 L[k].d.tags.length c3, .slice A4 L[k].d.kids.length c4] 0 [] (.slice none 0 0) (.slice none 0 0) [] W3:=by
  refine ⟨h.below hb3',hd.below hb3',Qx.of_below hb3',D0.below hb3,R0.below hb3,?_,?_,Qg.mk0 (World.ownsRow_nil _ _ _ _) (World.ownsRow_nil _ _ _ _) (fun e=> by cases e) (fun e=> by cases e) (fun g e=> by cases e),hbw,hlo,hB,by rw [hW3];simp;omega⟩
  ·rw [hW3,←hz0];exact (Zo.new W0 _ _).alloc _
  ·rw [hW3]
   have:=Zo.new (W0.alloc (.cells #[.string L[k].d.name, .int .i64 6, .int .i64 L[k].d.size, .bool L[k].d.little, .slice A1 L[k].d.bytes.length c1, .slice A2 L[k].d.names.length c2, .slice A3 L[k].d.tags.length c3, .slice A4 L[k].d.kids.length c4] 50)) 29 #[.int .i64 0, .slice none 0 0, .slice none 0 0]
   simp only [World.size_alloc,hz0] at this
   exact this
 have HV:=Fs (Ft hd (Ft hcell (Ft e1 (Ft e2 (Ft e3 e4)))))
 have HD:=Fs hD
 have hkl:=hk
 unfold maxLen at m1 m2 m3 m4
 clear h hd hD D0 R0 hb3 hb3' hcell e1 e2 e3 e4
 go_enter func22,ntmps22
 go_upto_region 1 with fail
 rw [←hW0]
 clear hW0 hb0
 go_upto_region 3 with fail
 rw [←hW3]
 clear hW3 s0 x0 x1 x2 x3 x4 x5 x6 x7
 have HZ:=Fs (Ft hz0 hB)
 clear hz0
 obtain ⟨i0,hi,hz0,hz1,hz2⟩:=info_parts info_value
 obtain ⟨hk3l,hval⟩:=val6 RU.out (by rw [hge];exact hkind)
 simp only [hge] at hk3l hval
 have HVL:=Fs hval
 clear hval
 have hNK:(.slice A4 L[k].d.kids.length c4:Value)= .slice A4 L[k].d.kids.length c4:=rfl
 obtain ⟨⟨q0,q1,q2,q3,q4,q5,q6,q7⟩,f0,f1,f2,f3,f4,f5,f6,f7⟩:=H3.rbox.c8
 obtain ⟨⟨r0,r1,r2⟩,e0,e1,e2⟩:=H3.res.c3
 obtain ⟨⟨p0,p1,p2⟩,g0,g1,g2⟩:=H3.vbox.c3
 have HH:=Fs H3
 clear H3 hNK
 go_wp2
 go_loopw [12] (fun i wr=> ∃(j:Nat) (Dl:List VM) (Ai:Option Addr) (ci:Nat),i= .int .i64 j∧Dl.length=j∧j≤L[k].d.kids.length∧(∀(i:Nat) (h1:i < Dl.length) (h2:i < L[k].d.kids.length),Zn (L.map RM.d) L[k].d.kids[i] Dl[i].d=true∧Dl[i].d.size≤sB (k - 1))∧Tf b lo B v l (.slice (some ⟨b0,off,none⟩) L.length c) L k w #[.string L[k].d.name, .int .i64 6, .int .i64 L[k].d.size, .bool L[k].d.little, .slice A1 L[k].d.bytes.length c1, .slice A2 L[k].d.names.length c2, .slice A3 L[k].d.tags.length c3, .slice A4 L[k].d.kids.length c4] 0 [] (.slice none 0 0) (.slice Ai Dl.length ci) Dl wr) (fun i _=> L[k].d.kids.length - (intOf i).toNat)
 case atStart=> exact ⟨0, [],none,0,rfl,rfl,Eb _,fun i h1=> absurd h1 (by simp),HH.out⟩
 case round=>
  clear HH q0 q1 q2 q3 q4 q5 q6 q7 f0 f1 f2 f3 f4 f5 f6 f7 r0 r1 r2 e0 e1 e2 p0 p1 p2 g0 g1 g2
  obtain ⟨j,Dl,Ai,ci,rfl,hjl,hj3,hall,hvk⟩:=hrel
  have HAL:=Fs hall
  have HJL:=Fs hjl
  clear hall hjl
  by_cases hj0:j < L[k].d.kids.length
  ·have hdl3:Dl.length≤3:=by have:=HJL.out;omega
   obtain ⟨q,hq0,hq⟩:=RU.out.kidN (j:=j) (by rw [hge];exact hj0)
   simp only [hge] at hq0
   obtain ⟨bk,fk,hA4,hbk0,hkc⟩:=kidS HV.out.1 hk HV.out.2.2.2.2.2 hj0
   subst hA4
   have hbz:bk < w.heap.size:=Ea hbk0 HZ.out.2
   rw [hq0] at hkc
   have hkc:=Fs hkc
   have HX:=Fs hvk.drew
   have q7:wr.cell? ⟨w.heap.size+2,7,none⟩=some (.slice (some ⟨bk,fk,none⟩) L[k].d.kids.length c4):=hvk.rbox.cell 7 rfl
   clear hvk
   go_wp2_with fail
   refine Qr (S:=(fun w9=> w9.cell? ⟨w.heap.size,0,none⟩=some (.slice (some ⟨b0,off,none⟩) L.length c)∧w9.cell? ⟨w.heap.size+2,7,none⟩=some (.slice (some ⟨bk,fk,none⟩) L[k].d.kids.length c4)∧w9.cell? ⟨bk,fk+j,none⟩=some (.int .i64 q)∧w9.cell? ⟨w.heap.size+3,2,none⟩=some (.slice Ai Dl.length ci))) 15 (by kernel_rfl) ?_ (fun hHeld=> ?_)
   ·(try dsimp only);exact ⟨HX.out.dbox.cell 0 rfl,HX.out.rbox.cell 7 rfl,hkc.out _ HX.out.st,HX.out.vbox.cell 2 rfl⟩
   refine Zt 0 (some 108) hHeld _ ?_;try go_frame
   refine Zt 1 (some 109) hHeld _ ?_;try go_frame
   refine Zt 2 (some 110) hHeld _ ?_;try go_frame
   refine Zt 3 (some 111) hHeld _ ?_;try go_frame
   refine Zt 4 (some 112) hHeld _ ?_;try go_frame
   refine Zt 5 (some 113) hHeld _ ?_;try go_frame
   refine Zt 6 (some 114) hHeld _ ?_;try go_frame
   refine Zt 7 (some 115) hHeld _ ?_;try go_frame
   refine Zt 8 (some 116) hHeld _ ?_;try go_frame
   refine Zt 9 (some 117) hHeld _ ?_;try go_frame
   refine Zt 10 (some 118) hHeld _ ?_;try go_frame
   refine Qw 11 (fun K hK=> ?_)
   go_simp
   have HP:=HX;have hzx:=HX.out.hz;rw [show IntKind.i64.wrap ((M:Int) / 2)=((M / 2:Nat):Int) from by rw [IntWalk.i64_in _ (by omega)];omega];refine (ih q hq (M / 2) _ HX.out.cur HX.out.st (by have:=HX.out.hB;omega) (by omega)).mono ?_;rintro e X2 ⟨y,rfl,hyv,hys,hyo,hgo,hcu⟩;obtain ⟨A5,c5,e5, -⟩:=hyo.own.rd.bytes.open_;obtain ⟨A6,c6,e6, -⟩:=hyo.own.rd.its.open_;have hgz:=hgo.size;have HX:=Fs (HX.out.step hgo hcu);have HY:=Fs (Ft hyv (Ft hys (Ft hyo (Ft e5 e6))));have HG:=Fs (Ft hgo hcu);clear hgo hcu hyv hys hyo;unfold Qs;rw [e5,e6];clear e5 e6
   (try go_wp2_with fail)
   refine hK.out _ _ ?_ (fun hHeld=> ?_)
   ·(try dsimp only);first|exact ⟨hk1,hk2,hk3,hk4⟩|exact ⟨HX.out.dbox.cell 0 rfl,HX.out.rbox.cell 7 rfl,hkc.out _ HX.out.st,HX.out.vbox.cell 2 rfl⟩
   clear hK K
   try go_frame
   refine Qw 12 (fun K hK=> ?_)
   (try go_simp)
   obtain ⟨X3,hX3⟩:∃V,V=X2.alloc (.cells #[.int .i64 y.n, .slice A5 y.b.length c5, .slice A6 y.items.length c6] 29):=⟨_,rfl⟩;rw [←hX3];have hbl:Below X2.heap.size X2 X3:=(by rw [hX3];exact (Fv _ _).alloc (Fu _) _);have hsl:=Fs (show Sl X3 (X2.heap.size+1) 3 (.slice (some ⟨X2.heap.size,0,none⟩) 1 1) 1 (Ze y) by rw [hX3];exact Tj (xs:=Ze y) (by unfold Ze;rw [HY.out.2.2.2.1,HY.out.2.2.2.2];exact Zo.new X2 _ _) rfl (Nat.lt_succ_self _));have HX:=Fs (HX.out.below hbl);have HA:=Fs hbl;clear hX3 hbl
   refine hK.out _ _ ?_ (fun hHeld=> ?_)
   ·(try dsimp only);first|exact ⟨hk1,hk2,hk3,hk4⟩|exact ⟨HX.out.dbox.cell 0 rfl,HX.out.rbox.cell 7 rfl,hkc.out _ HX.out.st,HX.out.vbox.cell 2 rfl⟩
   clear hK K
   try go_frame
   refine Qw 13 (fun K hK=> ?_)
   refine Je _ (.tmp 109) (.tmp 120) 27 rfl (w.heap.size+4) 29 i0 (.agg #[.int .i64 0, .slice none 0 0, .slice none 0 0]) 3 56 underlying27 hi hz0 hz1 hz2 rfl (by decide) _ Dl.length (Dl.flatMap Ze) rfl (by exact HX.out.gr.row) _ 1 _ (Ze y) rfl (by exact hsl.out) (Yl HY.out.2.2.2.1 HY.out.2.2.2.2) (by omega) (by unfold maxLen;omega) HX.out.hz ?_;intro v2 X6 own2 hg2 hv2;obtain ⟨An,cn,rfl⟩:=Zq own2;have HM:=Fs (HP.out.app HY.out.2.2.1 HG.out.1 HG.out.2 HA.out own2 hg2 hv2);clear own2 hg2 hv2;have hk1:X6.cell? ⟨w.heap.size,0,none⟩=some (.slice (some ⟨b0,off,none⟩) L.length c):=HM.out.1.1.cell 0 rfl;have hk2:X6.cell? ⟨w.heap.size+2,7,none⟩=some (.slice (some ⟨bk,fk,none⟩) L[k].d.kids.length c4):=HM.out.1.2.1.cell 7 rfl;have hk3:=hkc.out _ HM.out.1.2.2.2;have hk4:X6.cell? ⟨w.heap.size+3,2,none⟩=some (.slice Ai Dl.length ci):=HM.out.1.2.2.1.cell 2 rfl;have hk5:=HM.out.1.2.2.1.frozen 2
   refine hK.out _ _ ?_ (fun hHeld=> ?_)
   ·(try dsimp only);first|exact ⟨hk1,hk2,hk3,hk4⟩|exact ⟨HX.out.dbox.cell 0 rfl,HX.out.rbox.cell 7 rfl,hkc.out _ HX.out.st,HX.out.vbox.cell 2 rfl⟩
   clear hK K
   try go_frame
   refine Zt 14 (some 122) hHeld _ ?_;try go_frame
   refine Uz (fun K hK=> ?_)
   (try go_simp)
   refine hK.out _ _ ?_
   clear hK K
   try go_frame
   refine Js (by kernel_rfl) ?_ _
   obtain ⟨X7,hX7⟩:∃V,V=X6.setCell ⟨w.heap.size+3,2,none⟩ (.slice An (Dl.length+1) cn):=⟨_,rfl⟩
   rw [←hX7]
   have HQ:=Fs (by rw [hX7];simpa using HM.out.2:Tf b lo B v l (.slice (some ⟨b0,off,none⟩) L.length c) L k w #[.string L[k].d.name, .int .i64 6, .int .i64 L[k].d.size, .bool L[k].d.little, .slice A1 L[k].d.bytes.length c1, .slice A2 L[k].d.names.length c2, .slice A3 L[k].d.tags.length c3, .slice (some ⟨bk,fk,none⟩) L[k].d.kids.length c4] 0 [] (.slice none 0 0) (.slice An (Dl++ [y]).length cn) (Dl++ [y]) X7)
   clear hX7 HX hk1 hk2 hk3 hk4 hk5 HM HP HA HG hsl
   go_wp2
   go_roundw
   case rel=> exact ⟨j+1,Dl++ [y],_,_,by go_num,by simp;exact HJL.out,by omega,fun i h1 h2=> by
    by_cases hi:i < Dl.length
    ·rw [List.getElem_append_left hi];exact HAL.out i hi h2
    ·have e:i=j:=by have:=HJL.out;simp at h1;omega
     subst e
     rw [List.getElem_append_right (by omega)]
     simp only [HJL.out,Nat.sub_self,List.getElem_cons_zero]
     rw [hq0]
     exact ⟨HY.out.1,Nat.le_trans HY.out.2.1 (Th (by omega))⟩,HQ.out⟩
   case measure=> simp [intOf];omega
  ·have hjn:j=L[k].d.kids.length:=by omega
   have HJN:=Fs hjn
   have H4:=Fs hvk
   have hpos:L[k].d.kids= []∨0 < k:=by
    rcases hkk:L[k].d.kids with _|⟨a,t⟩
    ·exact .inl rfl
    ·have:=RU.out.kids a (by rw [hge,hkk];simp)
     exact .inr (by omega)
   have HP:=Fs hpos
   clear hvk hpos hjn
   obtain ⟨⟨q0,q1,q2,q3,q4,q5,q6,q7⟩,f0,f1,f2,f3,f4,f5,f6,f7⟩:=H4.out.rbox.c8
   obtain ⟨⟨r0,r1,r2⟩,e0,e1,e2⟩:=H4.out.res.c3
   obtain ⟨⟨p0,p1,p2⟩,g0,g1,g2⟩:=H4.out.vbox.c3
   go_wp2
   obtain ⟨Wf,hWf,hR,hgo,hcu,⟨x,hxd,hxv,hxo⟩,hsz⟩:=(H4.out).fin
   rw [←hWf]
   obtain ⟨⟨t0,t1,t2⟩, -⟩:=hR.c3
   refine bodyPost_ret (v:= .agg #[.int .i64 0, .slice none 0 0, .slice Ai Dl.length ci]) (by simp [results,results22,go_sem,t0,t1,t2]) rfl ⟨x,by rw [hxv],by rw [hxd];exact HVL.out (Dl.map VM.d) (by rw [List.length_map,HJL.out,HJN.out]) (fun i hi=> by rw [List.length_map] at hi;have h5:=(HAL.out i hi (by have:=HJL.out;have:=HJN.out;omega)).1;simpa only [List.getElem_map] using h5),by rw [hxd];exact Yk (by simp) (by rw [List.length_map,HJL.out];omega) (HP.out.imp (fun h=> by have h1:=HJL.out;have h2:=HJN.out;rw [h] at h2;exact List.map_eq_nil_iff.2 (List.length_eq_zero_iff.1 (by rw [h1,h2];rfl))) id) (fun x hx=> by obtain ⟨y,hy,rfl⟩:=List.mem_map.1 hx;obtain ⟨i,hi,rfl⟩:=List.getElem_of_mem hy;exact (HAL.out i hi (by have:=HJL.out;have:=HJN.out;omega)).2),hxo,hgo,hcu⟩
theorem l9Make_7 (b lo B:Nat) (v vD:Value) (l:List UInt8) (L:List RM) (k M:Nat) (w:World) (h:Qo b v l w) (hd:Zy lo B (fun w'=> Qz w' B vD L) w) (hlo:b < lo) (hB:B≤w.heap.size) (hD:Ud (L.map RM.d)) (h9:L.length≤9) (hk:k < L.length) (hM:M≤1000) (hkind:L[k].d.kind=7) (ih:∀j,j < k→MkVC b lo B v l vD L j):
  Calls prog 22 #[.pointer (some ⟨b,0,none⟩), .agg #[vD], .int .i64 k, .int .i64 M] w (Rr b v l L k w):=by
 have hlm:(L.map RM.d).length=L.length:=List.length_map ..
 have hkD:k < (L.map RM.d).length:=by rw [hlm];exact hk
 have hge:(L.map RM.d)[k]=L[k].d:=List.getElem_map ..
 have RU:=Fs (hD.ruK (by rw [hlm];exact h9) hkD)
 obtain ⟨A,c,rfl,hc,hm, -⟩:=hd.now.open_
 have hRC:=Zw hd.now k hk
 obtain ⟨b0,off,A1,c1,A2,c2,A3,c3,A4,c4,rfl,hbB,e1,e2,e3,e4,m1,m2,m3,m4,hcell⟩:=hRC
 unfold maxLen at hm
 have hbw:=h.lt
 obtain ⟨W0,hW0⟩:∃W0,W0=(w.alloc (.cells #[.slice (some ⟨b0,off,none⟩) L.length c] 26)).alloc (.cells #[.int .i64 0, .slice none 0 0, .slice none 0 0] 29):=⟨_,rfl⟩
 have hb0:Below w.heap.size w W0:=by rw [hW0];exact ((Fv w.heap.size w).alloc (Fu _) _).alloc (by simp) _
 have hz0:W0.heap.size=w.heap.size+2:=by rw [hW0];simp
 have D0:Zo W0 w.heap.size 26 #[.slice (some ⟨b0,off,none⟩) L.length c]:=by rw [hW0];exact (Zo.new w _ _).alloc _
 have R0:Zo W0 (w.heap.size+1) 29 #[.int .i64 0, .slice none 0 0, .slice none 0 0]:=by
  rw [hW0]
  have:=Zo.new (w.alloc (.cells #[.slice (some ⟨b0,off,none⟩) L.length c] 26)) 29 #[.int .i64 0, .slice none 0 0, .slice none 0 0]
  simpa using this
 have s0:W0.cell? ⟨w.heap.size,0,none⟩=some (.slice (some ⟨b0,off,none⟩) L.length c):=D0.cell 0 rfl
 obtain ⟨x0,x1,x2,x3,x4,x5,x6,x7⟩:=hcell W0 (Zu hb0 hB)
 rw [hkind] at x1
 obtain ⟨W3,hW3⟩:∃W3,W3=(W0.alloc (.cells #[.string L[k].d.name, .int .i64 7, .int .i64 L[k].d.size, .bool L[k].d.little, .slice A1 L[k].d.bytes.length c1, .slice A2 L[k].d.names.length c2, .slice A3 L[k].d.tags.length c3, .slice A4 L[k].d.kids.length c4] 50)).alloc (.cells #[.int .i64 0, .slice none 0 0, .slice none 0 0] 29):=⟨_,rfl⟩
 have hb3:Below W0.heap.size W0 W3:=by rw [hW3];exact ((Fv W0.heap.size W0).alloc (Fu _) _).alloc (by simp) _
 have hb3':=Zb hb3 hb0
 have H3:Tf b lo B v l (.slice (some ⟨b0,off,none⟩) L.length c) L k w #[.string L[k].d.name, .int .i64 7, .int .i64 L[k].d.size, .bool L[k].d.little, .slice A1 L[k].d.bytes.length c1, .slice A2 L[k].d.names.length c2, .slice A3 L[k].d.tags.length c3, .slice A4 L[k].d.kids.length c4] 0 [] (.slice none 0 0) (.slice none 0 0) [] W3:=by
  refine ⟨h.below hb3',hd.below hb3',Qx.of_below hb3',D0.below hb3,R0.below hb3,?_,?_,Qg.mk0 (World.ownsRow_nil _ _ _ _) (World.ownsRow_nil _ _ _ _) (fun e=> by cases e) (fun e=> by cases e) (fun g e=> by cases e),hbw,hlo,hB,by rw [hW3];simp;omega⟩
  ·rw [hW3,←hz0];exact (Zo.new W0 _ _).alloc _
  ·rw [hW3]
   have:=Zo.new (W0.alloc (.cells #[.string L[k].d.name, .int .i64 7, .int .i64 L[k].d.size, .bool L[k].d.little, .slice A1 L[k].d.bytes.length c1, .slice A2 L[k].d.names.length c2, .slice A3 L[k].d.tags.length c3, .slice A4 L[k].d.kids.length c4] 50)) 29 #[.int .i64 0, .slice none 0 0, .slice none 0 0]
   simp only [World.size_alloc,hz0] at this
   exact this
 have HV:=Fs (Ft hd (Ft hcell (Ft e1 (Ft e2 (Ft e3 e4)))))
 have HD:=Fs hD
 have hkl:=hk
 unfold maxLen at m1 m2 m3 m4
 clear h hd hD D0 R0 hb3 hb3' hcell e1 e2 e3 e4
 go_enter func22,ntmps22
 go_upto_region 1 with fail
 rw [←hW0]
 clear hW0 hb0
 go_upto_region 3 with fail
 rw [←hW3]
 clear hW3 s0 x0 x1 x2 x3 x4 x5 x6 x7
 have HZ:=Fs (Ft hz0 hB)
 clear hz0
 obtain ⟨ht1,hlen,hval⟩:=val7 RU.out (by rw [hge];exact hkind)
 simp only [hge] at ht1 hlen hval
 have HVL:=Fs (Ft hval hlen)
 have hlt3:=RU.out.lens.2.2.1
 rw [hge] at hlt3
 clear hval hlen
 obtain ⟨⟨q0,q1,q2,q3,q4,q5,q6,q7⟩,f0,f1,f2,f3,f4,f5,f6,f7⟩:=H3.rbox.c8
 obtain ⟨⟨r0,r1,r2⟩,e0,e1,e2⟩:=H3.res.c3
 obtain ⟨⟨p0,p1,p2⟩,g0,g1,g2⟩:=H3.vbox.c3
 go_wp2_with fail
 refine (Qn b b v l L[k].d.tags.length W3 H3.cur (by omega) (by omega)).mono ?_
 rintro e w4 ⟨⟨z,rfl,hz0',hz1'⟩,hs4,hzq,hc4⟩
 obtain ⟨tn,rfl⟩:=Int.eq_ofNat_of_zero_le hz0'
 have htn:tn < L[k].d.tags.length:=by omega
 have H4:=Fs (H3.step hs4 hc4)
 clear hzq hs4 hc4 H3 hz0' hz1' q0 q1 q2 q3 q4 q5 q6 q7 f0 f1 f2 f3 f4 f5 f6 f7 r0 r1 r2 e0 e1 e2 p0 p1 p2 g0 g1 g2
 have hkn:tn+1 < L[k].d.kids.length:=by have:=HVL.out.2;omega
 obtain ⟨q,hq0,hq⟩:=RU.out.kidN (j:=tn+1) (by rw [hge];exact hkn)
 simp only [hge] at hq0
 obtain ⟨bk,fk,hA4,hbk0,hkc⟩:=kidS HV.out.1 hk HV.out.2.2.2.2.2 hkn
 subst hA4
 have hbz:bk < w.heap.size:=Ea hbk0 HZ.out.2
 rw [hq0] at hkc
 have hkc:=Fs hkc
 obtain ⟨bt,ft,hA3,hbt0,htc⟩:=tagS HV.out.1 hk HV.out.2.2.2.2.1 htn
 subst hA3
 have hbtz:bt < w.heap.size:=Ea hbt0 HZ.out.2
 have tc:=htc _ H4.out.st
 clear htc
 obtain ⟨⟨q0,q1,q2,q3,q4,q5,q6,q7⟩,f0,f1,f2,f3,f4,f5,f6,f7⟩:=H4.out.rbox.c8
 obtain ⟨⟨r0,r1,r2⟩,e0,e1,e2⟩:=H4.out.res.c3
 obtain ⟨⟨p0,p1,p2⟩,g0,g1,g2⟩:=H4.out.vbox.c3
 generalize htg:L[k].d.tags[tn]=tg at*
 have HTG:=Fs htg
 clear htg
 go_wp2_with fail
 obtain ⟨W5,hW5⟩:∃W5,W5=w4.setCell ⟨w.heap.size+3,0,none⟩ (.int .i64 tg):=⟨_,rfl⟩
 rw [←hW5]
 have HX:=Fs (by rw [hW5];exact (H4.out.setN tg).drew:Tf b lo B v l (.slice (some ⟨b0,off,none⟩) L.length c) L k w #[.string L[k].d.name, .int .i64 7, .int .i64 L[k].d.size, .bool L[k].d.little, .slice A1 L[k].d.bytes.length c1, .slice A2 L[k].d.names.length c2, .slice (some ⟨bt,ft,none⟩) L[k].d.tags.length c3, .slice (some ⟨bk,fk,none⟩) L[k].d.kids.length c4] tg [] (.slice none 0 0) (.slice none 0 0) [] W5.drew)
 clear hW5 H4 tc q0 q1 q2 q3 q4 q5 q6 q7 f0 f1 f2 f3 f4 f5 f6 f7 r0 r1 r2 e0 e1 e2 p0 p1 p2 g0 g1 g2
 have hw1:IntKind.i64.wrap ((tn:Int)+1)=((tn+1:Nat):Int):=by rw [IntWalk.i64_in _ (by omega)];omega
 have hi1:0≤(tn:Int)+1:=by omega
 have hi2:(tn:Int)+1 < (L[k].d.kids.length:Int):=by omega
 go_wp2_with fail
 refine wp_region_held_drew (S:=(fun w9=> w9.cell? ⟨w.heap.size,0,none⟩=some (.slice (some ⟨b0,off,none⟩) L.length c)∧w9.cell? ⟨w.heap.size+2,7,none⟩=some (.slice (some ⟨bk,fk,none⟩) L[k].d.kids.length c4)∧w9.cell? ⟨bk,fk+(tn+1),none⟩=some (.int .i64 q))) (by kernel_rfl) ?_ (fun hHeld=> ?_)
 ·(try dsimp only);exact ⟨HX.out.dbox.cell 0 rfl,HX.out.rbox.cell 7 rfl,hkc.out _ HX.out.st⟩
 refine Za 0 (some 136) hHeld _ ?_;try go_frame
 refine Za 1 (some 137) hHeld _ ?_;try go_frame
 refine Za 2 (some 138) hHeld _ ?_;try go_frame
 refine Za 3 (some 139) hHeld _ ?_;try go_frame
 refine Za 4 (some 140) hHeld _ ?_;try go_frame
 refine Za 5 (some 141) hHeld _ ?_;try go_frame
 refine Za 6 (some 142) hHeld _ ?_;try go_frame
 refine Za 7 (some 143) hHeld _ ?_;try go_frame
 refine Za 8 (some 144) hHeld _ ?_;try go_frame
 refine Za 9 (some 145) hHeld _ ?_;try go_frame
 refine Zh 10 (fun K hK=> ?_)
 go_simp
 have hzx:=HX.out.hz;rw [show IntKind.i64.wrap ((M:Int) / 2)=((M / 2:Nat):Int) from by rw [IntWalk.i64_in _ (by omega)];omega];refine (ih q hq (M / 2) _ HX.out.cur HX.out.st (by have:=HX.out.hB;omega) (by omega)).mono ?_;rintro e X2 ⟨y,rfl,hyv,hys,hyo,hgo,hcu⟩;obtain ⟨A5,c5,e5, -⟩:=hyo.own.rd.bytes.open_;obtain ⟨A6,c6,e6, -⟩:=hyo.own.rd.its.open_;have hgz:=hgo.size;have HX:=Fs (HX.out.step hgo hcu);have HY:=Fs (Ft hyv (Ft hys (Ft hyo (Ft e5 e6))));clear hgo hcu hyv hys hyo;unfold Qs;rw [e5,e6];clear e5 e6
 (try go_wp2_with fail)
 refine hK.out _ _ ?_ (fun hHeld=> ?_)
 ·(try dsimp only);first|exact ⟨HX.out.dbox.cell 0 rfl,HX.out.rbox.cell 7 rfl,hkc.out _ HX.out.st⟩|exact ⟨hk1,hk2,hk3⟩
 clear hK K
 try go_frame
 refine Zh 11 (fun K hK=> ?_)
 (try go_simp)
 obtain ⟨X3,hX3⟩:∃V,V=X2.alloc (.cells #[.int .i64 y.n, .slice A5 y.b.length c5, .slice A6 y.items.length c6] 29):=⟨_,rfl⟩;rw [←hX3];have hz23:X2.heap.size < X3.heap.size:=(by rw [hX3];simp);have hbl:Below X2.heap.size X2 X3:=(by rw [hX3];exact (Fv _ _).alloc (Fu _) _);have hbk:=Fs (show Zo X3 X2.heap.size 29 (Ze y).toArray by rw [hX3];unfold Ze;rw [HY.out.2.2.2.1,HY.out.2.2.2.2];exact Zo.new X2 _ _);have hyo3:=Fs (HY.out.2.2.1.keep (Xq.of_below hbl 0 0) (.inr (Eb _)));have HX:=Fs (HX.out.below hbl);clear hX3 hbl
 refine hK.out _ _ ?_ (fun hHeld=> ?_)
 ·(try dsimp only);first|exact ⟨HX.out.dbox.cell 0 rfl,HX.out.rbox.cell 7 rfl,hkc.out _ HX.out.st⟩|exact ⟨hk1,hk2,hk3⟩
 clear hK K
 try go_frame
 refine Za 12 (some 148) hHeld _ ?_;try go_frame
 refine Zh 13 (fun K hK=> ?_)
 (try go_simp)
 have p2:=HX.out.vbox.cell 2 rfl;have g2:=HX.out.vbox.frozen 2;simp only [List.getElem_toArray] at p2;have hk1:(X3.setCell ⟨w.heap.size+3,2,none⟩ (.slice (some ⟨X2.heap.size,0,none⟩) 1 1)).cell? ⟨w.heap.size,0,none⟩=some (.slice (some ⟨b0,off,none⟩) L.length c):=(HX.out.dbox.other (by omega) _).cell 0 rfl;have hk2:(X3.setCell ⟨w.heap.size+3,2,none⟩ (.slice (some ⟨X2.heap.size,0,none⟩) 1 1)).cell? ⟨w.heap.size+2,7,none⟩=some (.slice (some ⟨bk,fk,none⟩) L[k].d.kids.length c4):=(HX.out.rbox.other (by omega) _).cell 7 rfl;have hk3:=hkc.out _ (HX.out.st.set (g:=w.heap.size+3) (j:=2) (.inr (by have:=HX.out.hB;omega)) (.slice (some ⟨X2.heap.size,0,none⟩) 1 1));go_simp
 refine hK.out _ _ ?_ (fun hHeld=> ?_)
 ·(try dsimp only);first|exact ⟨HX.out.dbox.cell 0 rfl,HX.out.rbox.cell 7 rfl,hkc.out _ HX.out.st⟩|exact ⟨hk1,hk2,hk3⟩
 clear hK K
 try go_frame
 refine wpAnyH_done (by kernel_rfl) ?_ _
 obtain ⟨X4,hX4⟩:∃V,V=X3.setCell ⟨w.heap.size+3,2,none⟩ (.slice (some ⟨X2.heap.size,0,none⟩) 1 1):=⟨_,rfl⟩
 rw [←hX4]
 have H4:=Fs (by rw [hX4];exact HX.out.setI hbk.out (hyo3.out.own.base hzx) hyo3.out.nd (fun hm=> by have:=(hyo3.out.rng _ hm).2;omega) (by omega):Tf b lo B v l (.slice (some ⟨b0,off,none⟩) L.length c) L k w #[.string L[k].d.name, .int .i64 7, .int .i64 L[k].d.size, .bool L[k].d.little, .slice A1 L[k].d.bytes.length c1, .slice A2 L[k].d.names.length c2, .slice (some ⟨bt,ft,none⟩) L[k].d.tags.length c3, .slice (some ⟨bk,fk,none⟩) L[k].d.kids.length c4] tg [] (.slice none 0 0) (.slice (some ⟨X2.heap.size,0,none⟩) 1 1) [y] X4)
 clear hX4 HX hk1 hk2 hk3 p2 g2 hbk hyo3
 obtain ⟨⟨q0,q1,q2,q3,q4,q5,q6,q7⟩,f0,f1,f2,f3,f4,f5,f6,f7⟩:=H4.out.rbox.c8
 obtain ⟨⟨r0,r1,r2⟩,e0,e1,e2⟩:=H4.out.res.c3
 obtain ⟨⟨p0,p1,p2⟩,g0,g1,g2⟩:=H4.out.vbox.c3
 go_wp2
 obtain ⟨Wf,hWf,hR,hgo,hcu,⟨x,hxd,hxv,hxo⟩,hsz⟩:=(H4.out).fin
 rw [←hWf]
 obtain ⟨⟨t0,t1,t2⟩, -⟩:=hR.c3
 refine bodyPost_ret (v:= .agg #[.int .i64 tg, .slice none 0 0, .slice (some ⟨X2.heap.size,0,none⟩) 1 1]) (by simp [results,results22,go_sem,t0,t1,t2]) rfl ⟨x,by rw [hxv],by rw [hxd];exact (by rw [←HTG.out];exact HVL.out.1 tn htn hkn y.d (by rw [hq0];exact HY.out.1)),by rw [hxd];exact Yk (by simp) (by simp) (.inr (by omega)) (by simp only [List.map_cons,List.map_nil,List.mem_singleton,forall_eq];exact Nat.le_trans HY.out.2.1 (Th (by omega))),hxo,hgo,hcu⟩
theorem l9Make_8 (b lo B:Nat) (v vD:Value) (l:List UInt8) (L:List RM) (k M:Nat) (w:World) (h:Qo b v l w) (hd:Zy lo B (fun w'=> Qz w' B vD L) w) (hlo:b < lo) (hB:B≤w.heap.size) (hD:Ud (L.map RM.d)) (h9:L.length≤9) (hk:k < L.length) (hM:M≤1000) (hkind:L[k].d.kind=8) (ih:∀j,j < k→MkVC b lo B v l vD L j):
  Calls prog 22 #[.pointer (some ⟨b,0,none⟩), .agg #[vD], .int .i64 k, .int .i64 M] w (Rr b v l L k w):=by
 have hlm:(L.map RM.d).length=L.length:=List.length_map ..
 have hkD:k < (L.map RM.d).length:=by rw [hlm];exact hk
 have hge:(L.map RM.d)[k]=L[k].d:=List.getElem_map ..
 have RU:=Fs (hD.ruK (by rw [hlm];exact h9) hkD)
 obtain ⟨A,c,rfl,hc,hm, -⟩:=hd.now.open_
 have hRC:=Zw hd.now k hk
 obtain ⟨b0,off,A1,c1,A2,c2,A3,c3,A4,c4,rfl,hbB,e1,e2,e3,e4,m1,m2,m3,m4,hcell⟩:=hRC
 unfold maxLen at hm
 have hbw:=h.lt
 obtain ⟨W0,hW0⟩:∃W0,W0=(w.alloc (.cells #[.slice (some ⟨b0,off,none⟩) L.length c] 26)).alloc (.cells #[.int .i64 0, .slice none 0 0, .slice none 0 0] 29):=⟨_,rfl⟩
 have hb0:Below w.heap.size w W0:=by rw [hW0];exact ((Fv w.heap.size w).alloc (Fu _) _).alloc (by simp) _
 have hz0:W0.heap.size=w.heap.size+2:=by rw [hW0];simp
 have D0:Zo W0 w.heap.size 26 #[.slice (some ⟨b0,off,none⟩) L.length c]:=by rw [hW0];exact (Zo.new w _ _).alloc _
 have R0:Zo W0 (w.heap.size+1) 29 #[.int .i64 0, .slice none 0 0, .slice none 0 0]:=by
  rw [hW0]
  have:=Zo.new (w.alloc (.cells #[.slice (some ⟨b0,off,none⟩) L.length c] 26)) 29 #[.int .i64 0, .slice none 0 0, .slice none 0 0]
  simpa using this
 have s0:W0.cell? ⟨w.heap.size,0,none⟩=some (.slice (some ⟨b0,off,none⟩) L.length c):=D0.cell 0 rfl
 obtain ⟨x0,x1,x2,x3,x4,x5,x6,x7⟩:=hcell W0 (Zu hb0 hB)
 rw [hkind] at x1
 obtain ⟨W3,hW3⟩:∃W3,W3=(W0.alloc (.cells #[.string L[k].d.name, .int .i64 8, .int .i64 L[k].d.size, .bool L[k].d.little, .slice A1 L[k].d.bytes.length c1, .slice A2 L[k].d.names.length c2, .slice A3 L[k].d.tags.length c3, .slice A4 L[k].d.kids.length c4] 50)).alloc (.cells #[.int .i64 0, .slice none 0 0, .slice none 0 0] 29):=⟨_,rfl⟩
 have hb3:Below W0.heap.size W0 W3:=by rw [hW3];exact ((Fv W0.heap.size W0).alloc (Fu _) _).alloc (by simp) _
 have hb3':=Zb hb3 hb0
 have H3:Tf b lo B v l (.slice (some ⟨b0,off,none⟩) L.length c) L k w #[.string L[k].d.name, .int .i64 8, .int .i64 L[k].d.size, .bool L[k].d.little, .slice A1 L[k].d.bytes.length c1, .slice A2 L[k].d.names.length c2, .slice A3 L[k].d.tags.length c3, .slice A4 L[k].d.kids.length c4] 0 [] (.slice none 0 0) (.slice none 0 0) [] W3:=by
  refine ⟨h.below hb3',hd.below hb3',Qx.of_below hb3',D0.below hb3,R0.below hb3,?_,?_,Qg.mk0 (World.ownsRow_nil _ _ _ _) (World.ownsRow_nil _ _ _ _) (fun e=> by cases e) (fun e=> by cases e) (fun g e=> by cases e),hbw,hlo,hB,by rw [hW3];simp;omega⟩
  ·rw [hW3,←hz0];exact (Zo.new W0 _ _).alloc _
  ·rw [hW3]
   have:=Zo.new (W0.alloc (.cells #[.string L[k].d.name, .int .i64 8, .int .i64 L[k].d.size, .bool L[k].d.little, .slice A1 L[k].d.bytes.length c1, .slice A2 L[k].d.names.length c2, .slice A3 L[k].d.tags.length c3, .slice A4 L[k].d.kids.length c4] 50)) 29 #[.int .i64 0, .slice none 0 0, .slice none 0 0]
   simp only [World.size_alloc,hz0] at this
   exact this
 have HV:=Fs (Ft hd (Ft hcell (Ft e1 (Ft e2 (Ft e3 e4)))))
 have HD:=Fs hD
 have hkl:=hk
 unfold maxLen at m1 m2 m3 m4
 clear h hd hD D0 R0 hb3 hb3' hcell e1 e2 e3 e4
 go_enter func22,ntmps22
 go_upto_region 1 with fail
 rw [←hW0]
 clear hW0 hb0
 go_upto_region 3 with fail
 rw [←hW3]
 clear hW3 s0 x0 x1 x2 x3 x4 x5 x6 x7
 have HZ:=Fs (Ft hz0 hB)
 clear hz0
 obtain ⟨hk2',hval0,hval⟩:=val8 RU.out (by rw [hge];exact hkind)
 simp only [hge] at hk2' hval
 have HVL:=Fs (Ft hval0 hval)
 clear hval0 hval
 obtain ⟨q,hq0,hq⟩:=RU.out.kidN (j:=0) (by rw [hge];exact hk2')
 simp only [hge] at hq0
 obtain ⟨bk,fk,hA4,hbk0,hkc⟩:=kidS HV.out.1 hk HV.out.2.2.2.2.2 hk2'
 subst hA4
 have hbz:bk < w.heap.size:=Ea hbk0 HZ.out.2
 rw [hq0] at hkc
 try simp only [Nat.add_zero] at hkc
 have hkc:=Fs hkc
 obtain ⟨⟨q0,q1,q2,q3,q4,q5,q6,q7⟩,f0,f1,f2,f3,f4,f5,f6,f7⟩:=H3.rbox.c8
 obtain ⟨⟨r0,r1,r2⟩,e0,e1,e2⟩:=H3.res.c3
 obtain ⟨⟨p0,p1,p2⟩,g0,g1,g2⟩:=H3.vbox.c3
 go_wp2_with fail
 refine (Vn b b v l 2 W3 H3.cur (by omega) (by omega)).mono ?_
 rintro e w4 ⟨⟨t,rfl⟩,hs4,hzq,hc4⟩
 have H4:=Fs (H3.step hs4 hc4)
 clear hzq hs4 hc4 H3 q0 q1 q2 q3 q4 q5 q6 q7 f0 f1 f2 f3 f4 f5 f6 f7 r0 r1 r2 e0 e1 e2 p0 p1 p2 g0 g1 g2
 obtain ⟨⟨q0,q1,q2,q3,q4,q5,q6,q7⟩,f0,f1,f2,f3,f4,f5,f6,f7⟩:=H4.out.rbox.c8
 obtain ⟨⟨r0,r1,r2⟩,e0,e1,e2⟩:=H4.out.res.c3
 obtain ⟨⟨p0,p1,p2⟩,g0,g1,g2⟩:=H4.out.vbox.c3
 cases t with
 |false=>
  go_wp2
  obtain ⟨Wf,hWf,hR,hgo,hcu,⟨x,hxd,hxv,hxo⟩,hsz⟩:=(H4.out).fin
  rw [←hWf]
  obtain ⟨⟨t0,t1,t2⟩, -⟩:=hR.c3
  refine bodyPost_ret (v:= .agg #[.int .i64 0, .slice none 0 0, .slice none 0 0]) (by simp [results,results22,go_sem,t0,t1,t2]) rfl ⟨x,by rw [hxv],by rw [hxd];exact HVL.out.1,by rw [hxd];exact Yk (by simp) (by simp) (.inl rfl) (by simp),hxo,hgo,hcu⟩
 |true=>
  have HX:=Fs H4.out.drew
  clear H4
  go_wp2_with fail
  refine wp_region_held_drew (S:=(fun w9=> w9.cell? ⟨w.heap.size,0,none⟩=some (.slice (some ⟨b0,off,none⟩) L.length c)∧w9.cell? ⟨w.heap.size+2,7,none⟩=some (.slice (some ⟨bk,fk,none⟩) L[k].d.kids.length c4)∧w9.cell? ⟨bk,fk,none⟩=some (.int .i64 q))) (by kernel_rfl) ?_ (fun hHeld=> ?_)
  ·(try dsimp only);exact ⟨HX.out.dbox.cell 0 rfl,HX.out.rbox.cell 7 rfl,hkc.out _ HX.out.st⟩
  refine Za 0 (some 153) hHeld _ ?_;try go_frame
  refine Za 1 (some 154) hHeld _ ?_;try go_frame
  refine Za 2 (some 155) hHeld _ ?_;try go_frame
  refine Za 3 (some 156) hHeld _ ?_;try go_frame
  refine Za 4 (some 157) hHeld _ ?_;try go_frame
  refine Za 5 (some 158) hHeld _ ?_;try go_frame
  refine Za 6 (some 159) hHeld _ ?_;try go_frame
  refine Za 7 (some 160) hHeld _ ?_;try go_frame
  refine Zh 8 (fun K hK=> ?_)
  go_simp
  have hzx:=HX.out.hz;rw [show IntKind.i64.wrap ((M:Int) / 2)=((M / 2:Nat):Int) from by rw [IntWalk.i64_in _ (by omega)];omega];refine (ih q hq (M / 2) _ HX.out.cur HX.out.st (by have:=HX.out.hB;omega) (by omega)).mono ?_;rintro e X2 ⟨y,rfl,hyv,hys,hyo,hgo,hcu⟩;obtain ⟨A5,c5,e5, -⟩:=hyo.own.rd.bytes.open_;obtain ⟨A6,c6,e6, -⟩:=hyo.own.rd.its.open_;have hgz:=hgo.size;have HX:=Fs (HX.out.step hgo hcu);have HY:=Fs (Ft hyv (Ft hys (Ft hyo (Ft e5 e6))));clear hgo hcu hyv hys hyo;unfold Qs;rw [e5,e6];clear e5 e6
  (try go_wp2_with fail)
  refine hK.out _ _ ?_ (fun hHeld=> ?_)
  ·(try dsimp only);first|exact ⟨HX.out.dbox.cell 0 rfl,HX.out.rbox.cell 7 rfl,hkc.out _ HX.out.st⟩|exact ⟨hk1,hk2,hk3⟩
  clear hK K
  try go_frame
  refine Zh 9 (fun K hK=> ?_)
  (try go_simp)
  obtain ⟨X3,hX3⟩:∃V,V=X2.alloc (.cells #[.int .i64 y.n, .slice A5 y.b.length c5, .slice A6 y.items.length c6] 29):=⟨_,rfl⟩;rw [←hX3];have hz23:X2.heap.size < X3.heap.size:=(by rw [hX3];simp);have hbl:Below X2.heap.size X2 X3:=(by rw [hX3];exact (Fv _ _).alloc (Fu _) _);have hbk:=Fs (show Zo X3 X2.heap.size 29 (Ze y).toArray by rw [hX3];unfold Ze;rw [HY.out.2.2.2.1,HY.out.2.2.2.2];exact Zo.new X2 _ _);have hyo3:=Fs (HY.out.2.2.1.keep (Xq.of_below hbl 0 0) (.inr (Eb _)));have HX:=Fs (HX.out.below hbl);clear hX3 hbl
  refine hK.out _ _ ?_ (fun hHeld=> ?_)
  ·(try dsimp only);first|exact ⟨HX.out.dbox.cell 0 rfl,HX.out.rbox.cell 7 rfl,hkc.out _ HX.out.st⟩|exact ⟨hk1,hk2,hk3⟩
  clear hK K
  try go_frame
  refine Za 10 (some 163) hHeld _ ?_;try go_frame
  refine Zh 11 (fun K hK=> ?_)
  (try go_simp)
  have p2:=HX.out.vbox.cell 2 rfl;have g2:=HX.out.vbox.frozen 2;simp only [List.getElem_toArray] at p2;have hk1:(X3.setCell ⟨w.heap.size+3,2,none⟩ (.slice (some ⟨X2.heap.size,0,none⟩) 1 1)).cell? ⟨w.heap.size,0,none⟩=some (.slice (some ⟨b0,off,none⟩) L.length c):=(HX.out.dbox.other (by omega) _).cell 0 rfl;have hk2:(X3.setCell ⟨w.heap.size+3,2,none⟩ (.slice (some ⟨X2.heap.size,0,none⟩) 1 1)).cell? ⟨w.heap.size+2,7,none⟩=some (.slice (some ⟨bk,fk,none⟩) L[k].d.kids.length c4):=(HX.out.rbox.other (by omega) _).cell 7 rfl;have hk3:=hkc.out _ (HX.out.st.set (g:=w.heap.size+3) (j:=2) (.inr (by have:=HX.out.hB;omega)) (.slice (some ⟨X2.heap.size,0,none⟩) 1 1));go_simp
  refine hK.out _ _ ?_ (fun hHeld=> ?_)
  ·(try dsimp only);first|exact ⟨HX.out.dbox.cell 0 rfl,HX.out.rbox.cell 7 rfl,hkc.out _ HX.out.st⟩|exact ⟨hk1,hk2,hk3⟩
  clear hK K
  try go_frame
  refine wpAnyH_done (by kernel_rfl) ?_ _
  obtain ⟨X4,hX4⟩:∃V,V=X3.setCell ⟨w.heap.size+3,2,none⟩ (.slice (some ⟨X2.heap.size,0,none⟩) 1 1):=⟨_,rfl⟩
  rw [←hX4]
  have H4:=Fs (by rw [hX4];exact HX.out.setI hbk.out (hyo3.out.own.base hzx) hyo3.out.nd (fun hm=> by have:=(hyo3.out.rng _ hm).2;omega) (by omega):Tf b lo B v l (.slice (some ⟨b0,off,none⟩) L.length c) L k w #[.string L[k].d.name, .int .i64 8, .int .i64 L[k].d.size, .bool L[k].d.little, .slice A1 L[k].d.bytes.length c1, .slice A2 L[k].d.names.length c2, .slice A3 L[k].d.tags.length c3, .slice (some ⟨bk,fk,none⟩) L[k].d.kids.length c4] 0 [] (.slice none 0 0) (.slice (some ⟨X2.heap.size,0,none⟩) 1 1) [y] X4)
  clear hX4 HX hk1 hk2 hk3 p2 g2 hbk hyo3
  clear q0 q1 q2 q3 q4 q5 q6 q7 f0 f1 f2 f3 f4 f5 f6 f7 r0 r1 r2 e0 e1 e2 p0 p1 p2 g0 g1 g2
  obtain ⟨⟨q0,q1,q2,q3,q4,q5,q6,q7⟩,f0,f1,f2,f3,f4,f5,f6,f7⟩:=H4.out.rbox.c8
  obtain ⟨⟨r0,r1,r2⟩,e0,e1,e2⟩:=H4.out.res.c3
  obtain ⟨⟨p0,p1,p2⟩,g0,g1,g2⟩:=H4.out.vbox.c3
  go_wp2
  obtain ⟨Wf,hWf,hR,hgo,hcu,⟨x,hxd,hxv,hxo⟩,hsz⟩:=(H4.out).fin
  rw [←hWf]
  obtain ⟨⟨t0,t1,t2⟩, -⟩:=hR.c3
  refine bodyPost_ret (v:= .agg #[.int .i64 0, .slice none 0 0, .slice (some ⟨X2.heap.size,0,none⟩) 1 1]) (by simp [results,results22,go_sem,t0,t1,t2]) rfl ⟨x,by rw [hxv],by rw [hxd];exact HVL.out.2 y.d (by rw [hq0];exact HY.out.1),by rw [hxd];exact Yk (by simp) (by simp) (.inr (by omega)) (by simp only [List.map_cons,List.map_nil,List.mem_singleton,forall_eq];exact Nat.le_trans HY.out.2.1 (Th (by omega))),hxo,hgo,hcu⟩
theorem l9Make_9 (b lo B:Nat) (v vD:Value) (l:List UInt8) (L:List RM) (k M:Nat) (w:World) (h:Qo b v l w) (hd:Zy lo B (fun w'=> Qz w' B vD L) w) (hlo:b < lo) (hB:B≤w.heap.size) (hD:Ud (L.map RM.d)) (h9:L.length≤9) (hk:k < L.length) (hM:M≤1000) (hkind:L[k].d.kind=9) (ih:∀j,j < k→MkVC b lo B v l vD L j):
  Calls prog 22 #[.pointer (some ⟨b,0,none⟩), .agg #[vD], .int .i64 k, .int .i64 M] w (Rr b v l L k w):=by
 have hlm:(L.map RM.d).length=L.length:=List.length_map ..
 have hkD:k < (L.map RM.d).length:=by rw [hlm];exact hk
 have hge:(L.map RM.d)[k]=L[k].d:=List.getElem_map ..
 have RU:=Fs (hD.ruK (by rw [hlm];exact h9) hkD)
 obtain ⟨A,c,rfl,hc,hm, -⟩:=hd.now.open_
 have hRC:=Zw hd.now k hk
 obtain ⟨b0,off,A1,c1,A2,c2,A3,c3,A4,c4,rfl,hbB,e1,e2,e3,e4,m1,m2,m3,m4,hcell⟩:=hRC
 unfold maxLen at hm
 have hbw:=h.lt
 obtain ⟨W0,hW0⟩:∃W0,W0=(w.alloc (.cells #[.slice (some ⟨b0,off,none⟩) L.length c] 26)).alloc (.cells #[.int .i64 0, .slice none 0 0, .slice none 0 0] 29):=⟨_,rfl⟩
 have hb0:Below w.heap.size w W0:=by rw [hW0];exact ((Fv w.heap.size w).alloc (Fu _) _).alloc (by simp) _
 have hz0:W0.heap.size=w.heap.size+2:=by rw [hW0];simp
 have D0:Zo W0 w.heap.size 26 #[.slice (some ⟨b0,off,none⟩) L.length c]:=by rw [hW0];exact (Zo.new w _ _).alloc _
 have R0:Zo W0 (w.heap.size+1) 29 #[.int .i64 0, .slice none 0 0, .slice none 0 0]:=by
  rw [hW0]
  have:=Zo.new (w.alloc (.cells #[.slice (some ⟨b0,off,none⟩) L.length c] 26)) 29 #[.int .i64 0, .slice none 0 0, .slice none 0 0]
  simpa using this
 have s0:W0.cell? ⟨w.heap.size,0,none⟩=some (.slice (some ⟨b0,off,none⟩) L.length c):=D0.cell 0 rfl
 obtain ⟨x0,x1,x2,x3,x4,x5,x6,x7⟩:=hcell W0 (Zu hb0 hB)
 rw [hkind] at x1
 obtain ⟨W3,hW3⟩:∃W3,W3=(W0.alloc (.cells #[.string L[k].d.name, .int .i64 9, .int .i64 L[k].d.size, .bool L[k].d.little, .slice A1 L[k].d.bytes.length c1, .slice A2 L[k].d.names.length c2, .slice A3 L[k].d.tags.length c3, .slice A4 L[k].d.kids.length c4] 50)).alloc (.cells #[.int .i64 0, .slice none 0 0, .slice none 0 0] 29):=⟨_,rfl⟩
 have hb3:Below W0.heap.size W0 W3:=by rw [hW3];exact ((Fv W0.heap.size W0).alloc (Fu _) _).alloc (by simp) _
 have hb3':=Zb hb3 hb0
 have H3:Tf b lo B v l (.slice (some ⟨b0,off,none⟩) L.length c) L k w #[.string L[k].d.name, .int .i64 9, .int .i64 L[k].d.size, .bool L[k].d.little, .slice A1 L[k].d.bytes.length c1, .slice A2 L[k].d.names.length c2, .slice A3 L[k].d.tags.length c3, .slice A4 L[k].d.kids.length c4] 0 [] (.slice none 0 0) (.slice none 0 0) [] W3:=by
  refine ⟨h.below hb3',hd.below hb3',Qx.of_below hb3',D0.below hb3,R0.below hb3,?_,?_,Qg.mk0 (World.ownsRow_nil _ _ _ _) (World.ownsRow_nil _ _ _ _) (fun e=> by cases e) (fun e=> by cases e) (fun g e=> by cases e),hbw,hlo,hB,by rw [hW3];simp;omega⟩
  ·rw [hW3,←hz0];exact (Zo.new W0 _ _).alloc _
  ·rw [hW3]
   have:=Zo.new (W0.alloc (.cells #[.string L[k].d.name, .int .i64 9, .int .i64 L[k].d.size, .bool L[k].d.little, .slice A1 L[k].d.bytes.length c1, .slice A2 L[k].d.names.length c2, .slice A3 L[k].d.tags.length c3, .slice A4 L[k].d.kids.length c4] 50)) 29 #[.int .i64 0, .slice none 0 0, .slice none 0 0]
   simp only [World.size_alloc,hz0] at this
   exact this
 have HV:=Fs (Ft hd (Ft hcell (Ft e1 (Ft e2 (Ft e3 e4)))))
 have HD:=Fs hD
 have hkl:=hk
 unfold maxLen at m1 m2 m3 m4
 clear h hd hD D0 R0 hb3 hb3' hcell e1 e2 e3 e4
 go_enter func22,ntmps22
 go_upto_region 1 with fail
 rw [←hW0]
 clear hW0 hb0
 go_upto_region 3 with fail
 rw [←hW3]
 clear hW3 s0 x0 x1 x2 x3 x4 x5 x6 x7
 have HZ:=Fs (Ft hz0 hB)
 clear hz0
 obtain ⟨hk2',hval⟩:=val9 RU.out (by rw [hge];exact hkind)
 simp only [hge] at hk2' hval
 have HVL:=Fs hval
 clear hval
 obtain ⟨q,hq0,hq⟩:=RU.out.kidN (j:=0) (by rw [hge];exact hk2')
 simp only [hge] at hq0
 obtain ⟨bk,fk,hA4,hbk0,hkc⟩:=kidS HV.out.1 hk HV.out.2.2.2.2.2 hk2'
 subst hA4
 have hbz:bk < w.heap.size:=Ea hbk0 HZ.out.2
 rw [hq0] at hkc
 try simp only [Nat.add_zero] at hkc
 have hkc:=Fs hkc
 obtain ⟨⟨q0,q1,q2,q3,q4,q5,q6,q7⟩,f0,f1,f2,f3,f4,f5,f6,f7⟩:=H3.rbox.c8
 obtain ⟨⟨r0,r1,r2⟩,e0,e1,e2⟩:=H3.res.c3
 obtain ⟨⟨p0,p1,p2⟩,g0,g1,g2⟩:=H3.vbox.c3
 have HX:=Fs H3.drew
 clear H3
 go_wp2_with fail
 refine wp_region_held_drew (S:=(fun w9=> w9.cell? ⟨w.heap.size,0,none⟩=some (.slice (some ⟨b0,off,none⟩) L.length c)∧w9.cell? ⟨w.heap.size+2,7,none⟩=some (.slice (some ⟨bk,fk,none⟩) L[k].d.kids.length c4)∧w9.cell? ⟨bk,fk,none⟩=some (.int .i64 q))) (by kernel_rfl) ?_ (fun hHeld=> ?_)
 ·(try dsimp only);exact ⟨HX.out.dbox.cell 0 rfl,HX.out.rbox.cell 7 rfl,hkc.out _ HX.out.st⟩
 refine Za 0 (some 166) hHeld _ ?_;try go_frame
 refine Za 1 (some 167) hHeld _ ?_;try go_frame
 refine Za 2 (some 168) hHeld _ ?_;try go_frame
 refine Za 3 (some 169) hHeld _ ?_;try go_frame
 refine Za 4 (some 170) hHeld _ ?_;try go_frame
 refine Za 5 (some 171) hHeld _ ?_;try go_frame
 refine Za 6 (some 172) hHeld _ ?_;try go_frame
 refine Za 7 (some 173) hHeld _ ?_;try go_frame
 refine Zh 8 (fun K hK=> ?_)
 go_simp
 have hzx:=HX.out.hz;rw [show IntKind.i64.wrap ((M:Int) / 2)=((M / 2:Nat):Int) from by rw [IntWalk.i64_in _ (by omega)];omega];refine (ih q hq (M / 2) _ HX.out.cur HX.out.st (by have:=HX.out.hB;omega) (by omega)).mono ?_;rintro e X2 ⟨y,rfl,hyv,hys,hyo,hgo,hcu⟩;obtain ⟨A5,c5,e5, -⟩:=hyo.own.rd.bytes.open_;obtain ⟨A6,c6,e6, -⟩:=hyo.own.rd.its.open_;have hgz:=hgo.size;have HX:=Fs (HX.out.step hgo hcu);have HY:=Fs (Ft hyv (Ft hys (Ft hyo (Ft e5 e6))));clear hgo hcu hyv hys hyo;unfold Qs;rw [e5,e6];clear e5 e6
 (try go_wp2_with fail)
 refine hK.out _ _ ?_ (fun hHeld=> ?_)
 ·(try dsimp only);first|exact ⟨HX.out.dbox.cell 0 rfl,HX.out.rbox.cell 7 rfl,hkc.out _ HX.out.st⟩|exact ⟨hk1,hk2,hk3⟩
 clear hK K
 try go_frame
 refine Zh 9 (fun K hK=> ?_)
 (try go_simp)
 obtain ⟨X3,hX3⟩:∃V,V=X2.alloc (.cells #[.int .i64 y.n, .slice A5 y.b.length c5, .slice A6 y.items.length c6] 29):=⟨_,rfl⟩;rw [←hX3];have hz23:X2.heap.size < X3.heap.size:=(by rw [hX3];simp);have hbl:Below X2.heap.size X2 X3:=(by rw [hX3];exact (Fv _ _).alloc (Fu _) _);have hbk:=Fs (show Zo X3 X2.heap.size 29 (Ze y).toArray by rw [hX3];unfold Ze;rw [HY.out.2.2.2.1,HY.out.2.2.2.2];exact Zo.new X2 _ _);have hyo3:=Fs (HY.out.2.2.1.keep (Xq.of_below hbl 0 0) (.inr (Eb _)));have HX:=Fs (HX.out.below hbl);clear hX3 hbl
 refine hK.out _ _ ?_ (fun hHeld=> ?_)
 ·(try dsimp only);first|exact ⟨HX.out.dbox.cell 0 rfl,HX.out.rbox.cell 7 rfl,hkc.out _ HX.out.st⟩|exact ⟨hk1,hk2,hk3⟩
 clear hK K
 try go_frame
 refine Za 10 (some 176) hHeld _ ?_;try go_frame
 refine Zh 11 (fun K hK=> ?_)
 (try go_simp)
 have p2:=HX.out.vbox.cell 2 rfl;have g2:=HX.out.vbox.frozen 2;simp only [List.getElem_toArray] at p2;have hk1:(X3.setCell ⟨w.heap.size+3,2,none⟩ (.slice (some ⟨X2.heap.size,0,none⟩) 1 1)).cell? ⟨w.heap.size,0,none⟩=some (.slice (some ⟨b0,off,none⟩) L.length c):=(HX.out.dbox.other (by omega) _).cell 0 rfl;have hk2:(X3.setCell ⟨w.heap.size+3,2,none⟩ (.slice (some ⟨X2.heap.size,0,none⟩) 1 1)).cell? ⟨w.heap.size+2,7,none⟩=some (.slice (some ⟨bk,fk,none⟩) L[k].d.kids.length c4):=(HX.out.rbox.other (by omega) _).cell 7 rfl;have hk3:=hkc.out _ (HX.out.st.set (g:=w.heap.size+3) (j:=2) (.inr (by have:=HX.out.hB;omega)) (.slice (some ⟨X2.heap.size,0,none⟩) 1 1));go_simp
 refine hK.out _ _ ?_ (fun hHeld=> ?_)
 ·(try dsimp only);first|exact ⟨HX.out.dbox.cell 0 rfl,HX.out.rbox.cell 7 rfl,hkc.out _ HX.out.st⟩|exact ⟨hk1,hk2,hk3⟩
 clear hK K
 try go_frame
 refine wpAnyH_done (by kernel_rfl) ?_ _
 obtain ⟨X4,hX4⟩:∃V,V=X3.setCell ⟨w.heap.size+3,2,none⟩ (.slice (some ⟨X2.heap.size,0,none⟩) 1 1):=⟨_,rfl⟩
 rw [←hX4]
 have H4:=Fs (by rw [hX4];exact HX.out.setI hbk.out (hyo3.out.own.base hzx) hyo3.out.nd (fun hm=> by have:=(hyo3.out.rng _ hm).2;omega) (by omega):Tf b lo B v l (.slice (some ⟨b0,off,none⟩) L.length c) L k w #[.string L[k].d.name, .int .i64 9, .int .i64 L[k].d.size, .bool L[k].d.little, .slice A1 L[k].d.bytes.length c1, .slice A2 L[k].d.names.length c2, .slice A3 L[k].d.tags.length c3, .slice (some ⟨bk,fk,none⟩) L[k].d.kids.length c4] 0 [] (.slice none 0 0) (.slice (some ⟨X2.heap.size,0,none⟩) 1 1) [y] X4)
 clear hX4 HX hk1 hk2 hk3 p2 g2 hbk hyo3
 clear q0 q1 q2 q3 q4 q5 q6 q7 f0 f1 f2 f3 f4 f5 f6 f7 r0 r1 r2 e0 e1 e2 p0 p1 p2 g0 g1 g2
 obtain ⟨⟨q0,q1,q2,q3,q4,q5,q6,q7⟩,f0,f1,f2,f3,f4,f5,f6,f7⟩:=H4.out.rbox.c8
 obtain ⟨⟨r0,r1,r2⟩,e0,e1,e2⟩:=H4.out.res.c3
 obtain ⟨⟨p0,p1,p2⟩,g0,g1,g2⟩:=H4.out.vbox.c3
 go_wp2
 obtain ⟨Wf,hWf,hR,hgo,hcu,⟨x,hxd,hxv,hxo⟩,hsz⟩:=(H4.out).fin
 rw [←hWf]
 obtain ⟨⟨t0,t1,t2⟩, -⟩:=hR.c3
 refine bodyPost_ret (v:= .agg #[.int .i64 0, .slice none 0 0, .slice (some ⟨X2.heap.size,0,none⟩) 1 1]) (by simp [results,results22,go_sem,t0,t1,t2]) rfl ⟨x,by rw [hxv],by rw [hxd];exact HVL.out y.d (by rw [hq0];exact HY.out.1),by rw [hxd];exact Yk (by simp) (by simp) (.inr (by omega)) (by simp only [List.map_cons,List.map_nil,List.mem_singleton,forall_eq];exact Nat.le_trans HY.out.2.1 (Th (by omega))),hxo,hgo,hcu⟩
theorem l9Make_10 (b lo B:Nat) (v vD:Value) (l:List UInt8) (L:List RM) (k M:Nat) (w:World) (h:Qo b v l w) (hd:Zy lo B (fun w'=> Qz w' B vD L) w) (hlo:b < lo) (hB:B≤w.heap.size) (hD:Ud (L.map RM.d)) (h9:L.length≤9) (hk:k < L.length) (hM:M≤1000) (hkind:L[k].d.kind=10):
  Calls prog 22 #[.pointer (some ⟨b,0,none⟩), .agg #[vD], .int .i64 k, .int .i64 M] w (Rr b v l L k w):=by
 have hlm:(L.map RM.d).length=L.length:=List.length_map ..
 have hkD:k < (L.map RM.d).length:=by rw [hlm];exact hk
 have hge:(L.map RM.d)[k]=L[k].d:=List.getElem_map ..
 have RU:=Fs (hD.ruK (by rw [hlm];exact h9) hkD)
 obtain ⟨A,c,rfl,hc,hm, -⟩:=hd.now.open_
 have hRC:=Zw hd.now k hk
 obtain ⟨b0,off,A1,c1,A2,c2,A3,c3,A4,c4,rfl,hbB,e1,e2,e3,e4,m1,m2,m3,m4,hcell⟩:=hRC
 unfold maxLen at hm
 have hbw:=h.lt
 obtain ⟨W0,hW0⟩:∃W0,W0=(w.alloc (.cells #[.slice (some ⟨b0,off,none⟩) L.length c] 26)).alloc (.cells #[.int .i64 0, .slice none 0 0, .slice none 0 0] 29):=⟨_,rfl⟩
 have hb0:Below w.heap.size w W0:=by rw [hW0];exact ((Fv w.heap.size w).alloc (Fu _) _).alloc (by simp) _
 have hz0:W0.heap.size=w.heap.size+2:=by rw [hW0];simp
 have D0:Zo W0 w.heap.size 26 #[.slice (some ⟨b0,off,none⟩) L.length c]:=by rw [hW0];exact (Zo.new w _ _).alloc _
 have R0:Zo W0 (w.heap.size+1) 29 #[.int .i64 0, .slice none 0 0, .slice none 0 0]:=by
  rw [hW0]
  have:=Zo.new (w.alloc (.cells #[.slice (some ⟨b0,off,none⟩) L.length c] 26)) 29 #[.int .i64 0, .slice none 0 0, .slice none 0 0]
  simpa using this
 have s0:W0.cell? ⟨w.heap.size,0,none⟩=some (.slice (some ⟨b0,off,none⟩) L.length c):=D0.cell 0 rfl
 obtain ⟨x0,x1,x2,x3,x4,x5,x6,x7⟩:=hcell W0 (Zu hb0 hB)
 rw [hkind] at x1
 obtain ⟨W3,hW3⟩:∃W3,W3=(W0.alloc (.cells #[.string L[k].d.name, .int .i64 10, .int .i64 L[k].d.size, .bool L[k].d.little, .slice A1 L[k].d.bytes.length c1, .slice A2 L[k].d.names.length c2, .slice A3 L[k].d.tags.length c3, .slice A4 L[k].d.kids.length c4] 50)).alloc (.cells #[.int .i64 0, .slice none 0 0, .slice none 0 0] 29):=⟨_,rfl⟩
 have hb3:Below W0.heap.size W0 W3:=by rw [hW3];exact ((Fv W0.heap.size W0).alloc (Fu _) _).alloc (by simp) _
 have hb3':=Zb hb3 hb0
 have H3:Tf b lo B v l (.slice (some ⟨b0,off,none⟩) L.length c) L k w #[.string L[k].d.name, .int .i64 10, .int .i64 L[k].d.size, .bool L[k].d.little, .slice A1 L[k].d.bytes.length c1, .slice A2 L[k].d.names.length c2, .slice A3 L[k].d.tags.length c3, .slice A4 L[k].d.kids.length c4] 0 [] (.slice none 0 0) (.slice none 0 0) [] W3:=by
  refine ⟨h.below hb3',hd.below hb3',Qx.of_below hb3',D0.below hb3,R0.below hb3,?_,?_,Qg.mk0 (World.ownsRow_nil _ _ _ _) (World.ownsRow_nil _ _ _ _) (fun e=> by cases e) (fun e=> by cases e) (fun g e=> by cases e),hbw,hlo,hB,by rw [hW3];simp;omega⟩
  ·rw [hW3,←hz0];exact (Zo.new W0 _ _).alloc _
  ·rw [hW3]
   have:=Zo.new (W0.alloc (.cells #[.string L[k].d.name, .int .i64 10, .int .i64 L[k].d.size, .bool L[k].d.little, .slice A1 L[k].d.bytes.length c1, .slice A2 L[k].d.names.length c2, .slice A3 L[k].d.tags.length c3, .slice A4 L[k].d.kids.length c4] 50)) 29 #[.int .i64 0, .slice none 0 0, .slice none 0 0]
   simp only [World.size_alloc,hz0] at this
   exact this
 have HV:=Fs (Ft hd (Ft hcell (Ft e1 (Ft e2 (Ft e3 e4)))))
 have HD:=Fs hD
 have hkl:=hk
 unfold maxLen at m1 m2 m3 m4
 clear h hd hD D0 R0 hb3 hb3' hcell e1 e2 e3 e4
 go_enter func22,ntmps22
 go_upto_region 1 with fail
 rw [←hW0]
 clear hW0 hb0
 go_upto_region 3 with fail
 rw [←hW3]
 clear hW3 s0 x0 x1 x2 x3 x4 x5 x6 x7
 have HZ:=Fs (Ft hz0 hB)
 clear hz0
 obtain ⟨⟨q0,q1,q2,q3,q4,q5,q6,q7⟩,f0,f1,f2,f3,f4,f5,f6,f7⟩:=H3.rbox.c8
 obtain ⟨⟨r0,r1,r2⟩,e0,e1,e2⟩:=H3.res.c3
 obtain ⟨⟨p0,p1,p2⟩,g0,g1,g2⟩:=H3.vbox.c3
 obtain ⟨hbl,hval⟩:=val10 RU.out (by rw [hge];exact hkind)
 rw [hge] at hbl
 have HVL:=Fs hval
 have hb1:0 < L[k].d.bytes.length:=by omega
 have hb1i:(0:Int) < (L[k].d.bytes.length:Int):=by omega
 clear hbl hval
 obtain ⟨bt,ft,hA1,hbt0,htc⟩:=byteS HV.out.1 hk HV.out.2.2.1 hb1
 subst hA1
 have hbtz:bt < w.heap.size:=Ea hbt0 HZ.out.2
 simp only [Nat.add_zero,u8v] at htc
 have htc:=Fs htc
 go_wp2_with fail
 refine (Yy _ _ _).mono ?_
 rintro e w1 ⟨rfl,rfl⟩
 obtain ⟨mm,hmm⟩:∃mm:Nat,(mm:Int)=min (M:Int) 6:=⟨(min (M:Int) 6).toNat,by omega⟩
 rw [←hmm]
 have hm3:mm≤6:=by omega
 clear hmm
 go_wp2_with fail
 refine (Qn b b v l (mm+1) W3 H3.cur (by omega) (by omega)).mono ?_
 rintro e w4 ⟨⟨z,rfl,hz0',hz1'⟩,hs,hzq,hc3⟩
 obtain ⟨zn,rfl⟩:=Int.eq_ofNat_of_zero_le hz0'
 have H4:=Fs (H3.step hs hc3)
 clear hzq hs hc3 H3 q0 q1 q2 q3 q4 q5 q6 q7 f0 f1 f2 f3 f4 f5 f6 f7 r0 r1 r2 e0 e1 e2 p0 p1 p2 g0 g1 g2
 obtain ⟨⟨q0,q1,q2,q3,q4,q5,q6,q7⟩,f0,f1,f2,f3,f4,f5,f6,f7⟩:=H4.out.rbox.c8
 obtain ⟨⟨r0,r1,r2⟩,e0,e1,e2⟩:=H4.out.res.c3
 obtain ⟨⟨p0,p1,p2⟩,g0,g1,g2⟩:=H4.out.vbox.c3
 go_wp2_with fail
 refine (Ti b v l zn w4 H4.out.cur (by omega)).mono ?_
 rintro e w5 ⟨u,xs,rfl,hxl,hown,hs4,hc4⟩
 have hzl:xs.length≤6:=by omega
 clear hxl hz0' hz1'
 have hz4:=H4.out.hz
 obtain ⟨Au,cu,rfl⟩:=Zq hown
 have H5:=Fs (H4.out.step hs4 hc4)
 have HO:=Fs (Ve hown hz4)
 clear hs4 hc4 hown H4 q0 q1 q2 q3 q4 q5 q6 q7 f0 f1 f2 f3 f4 f5 f6 f7 r0 r1 r2 e0 e1 e2 p0 p1 p2 g0 g1 g2
 obtain ⟨⟨q0,q1,q2,q3,q4,q5,q6,q7⟩,f0,f1,f2,f3,f4,f5,f6,f7⟩:=H5.out.rbox.c8
 obtain ⟨⟨r0,r1,r2⟩,e0,e1,e2⟩:=H5.out.res.c3
 obtain ⟨⟨p0,p1,p2⟩,g0,g1,g2⟩:=H5.out.vbox.c3
 by_cases hn:0 < xs.length
 ·have hnI:(0:Int) < (xs.length:Int):=by omega
  have hnd:decide (0 < xs.length)=true:=Fy hn
  have hnd2:decide ((0:Int) < (xs.length:Int))=true:=Fy hnI
  clear p0 p1 p2 g0 g1 g2
  obtain ⟨⟨p0,p1,p2⟩,g0,g1,g2⟩:=H5.out.vbox.c3
  obtain ⟨gb,cb,eb,hgb⟩:=Jp HO.out (by omega)
  cases eb
  go_wp2_with fail
  have H6:=Fs (H5.out.setB HO.out)
  refine (Vn b b v l 2 _ H6.out.cur (by omega) (by omega)).mono ?_
  rintro e w6 ⟨⟨t,rfl⟩,hs4,hzq,hc4⟩
  have H7:=Fs (H6.out.step hs4 hc4)
  clear hzq hs4 hc4 H6 H5 HO q0 q1 q2 q3 q4 q5 q6 q7 f0 f1 f2 f3 f4 f5 f6 f7 r0 r1 r2 e0 e1 e2 p0 p1 p2 g0 g1 g2
  cases t with
  |false=>
   obtain ⟨⟨q0,q1,q2,q3,q4,q5,q6,q7⟩,f0,f1,f2,f3,f4,f5,f6,f7⟩:=H7.out.rbox.c8
   obtain ⟨⟨r0,r1,r2⟩,e0,e1,e2⟩:=H7.out.res.c3
   obtain ⟨⟨p0,p1,p2⟩,g0,g1,g2⟩:=H7.out.vbox.c3
   go_wp2
   obtain ⟨Wf,hWf,hR,hgo,hcu,⟨x,hxd,hxv,hxo⟩,hsz⟩:=(H7.out).fin
   rw [←hWf]
   obtain ⟨⟨t0,t1,t2⟩, -⟩:=hR.c3
   refine bodyPost_ret (v:= .agg #[.int .i64 0, .slice (some ⟨gb,0,none⟩) xs.length cu, .slice none 0 0]) (by simp [results,results22,go_sem,t0,t1,t2]) rfl ⟨x,by rw [hxv],by rw [hxd];exact HVL.out xs hzl,by rw [hxd];exact Yk hzl (by simp) (.inl rfl) (by simp),hxo,hgo,hcu⟩
  |true=>
   have HX:=Fs H7.out.drew
   clear H7
   obtain ⟨by0,hby⟩:∃y:UInt8,y=L[k].d.bytes[0]:=⟨_,rfl⟩
   rw [←hby] at htc
   clear hby
   have hyl:=UInt8.toNat_lt by0
   have hwy:IntKind.i64.wrap (by0.toNat:Int)=(by0.toNat:Int):=IntWalk.i64_in _ (by omega)
   go_wp2_with fail
   refine wp_region_held_drew (S:=(fun w9=> w9.cell? ⟨w.heap.size+3,1,none⟩=some (.slice (some ⟨gb,0,none⟩) xs.length cu)∧w9.cell? ⟨w.heap.size+2,4,none⟩=some (.slice (some ⟨bt,ft,none⟩) L[k].d.bytes.length c1)∧w9.cell? ⟨bt,ft,none⟩=some (.int .u8 (by0.toNat:Int)))) (by kernel_rfl) ?_ (fun hHeld=> ?_)
   ·(try dsimp only);exact ⟨HX.out.vbox.cell 1 rfl,HX.out.rbox.cell 4 rfl,htc.out _ HX.out.st⟩
   refine Za 0 (some 62) hHeld _ ?_;try go_frame
   refine Za 1 (some 63) hHeld _ ?_;try go_frame
   refine Za 2 (some 64) hHeld _ ?_;try go_frame
   refine Za 3 (some 65) hHeld _ ?_;try go_frame
   refine Za 4 (some 66) hHeld _ ?_;try go_frame
   refine Za 5 (some 67) hHeld _ ?_;try go_frame
   refine Za 6 (some 68) hHeld _ ?_;try go_frame
   refine Za 7 (some 69) hHeld _ ?_;try go_frame
   refine Zh 8 (fun K hK=> ?_)
   (try go_simp)
   obtain ⟨X3,hX3⟩:∃V,V=(w6.alloc (.cells #[.int .i64 (by0.toNat:Int), .int .i64 92] 3)).drew:=⟨_,rfl⟩;rw [←hX3];have hbk:Zo X3 w6.heap.size 3 #[.int .i64 (by0.toNat:Int), .int .i64 92]:=(by rw [hX3];exact Zo.new w6 _ _);have hzx3:X3.heap.size=w6.heap.size+1:=(by rw [hX3];simp);have hI:=Fs (show Zy w6.heap.size (w6.heap.size+1) (fun w'=> Yt w' (w6.heap.size+1) (.slice (some ⟨w6.heap.size,0,none⟩) 2 2) [(by0.toNat:Int),92]) X3 from ⟨by omega,fun w5 h5 k5=> Rx (show Zo w5 _ 3 _ from (k5 _ (by omega) (by omega)).trans hbk) rfl (by simp [maxLen]) (by omega)⟩);have HX:=Fs (HX.out.below (W':=X3) (by rw [hX3];exact (Fv _ _).alloc (Fu _) _));clear hX3 hbk;have hzx3:X3.heap.size≤w6.heap.size+1:=Nat.le_of_eq hzx3
   refine hK.out _ _ ?_ (fun hHeld=> ?_)
   ·(try dsimp only);first|exact ⟨hk1,hk2,hk3⟩|exact ⟨HX.out.vbox.cell 1 rfl,HX.out.rbox.cell 4 rfl,htc.out _ HX.out.st⟩
   clear hK K
   try go_frame
   refine Zh 9 (fun K hK=> ?_)
   go_simp
   refine (Tv b w6.heap.size (w6.heap.size+1) (w6.heap.size+1) v _ l [(by0.toNat:Int),92] X3 HX.out.cur hI.out (by have:=HX.out.hz;omega) (by simp) (by simp)).mono ?_;rintro e X4 ⟨⟨z,hz,rfl⟩,hs,hzq,hc3⟩;clear hzq;have hz2:0≤z∧z≤255:=(by simp only [List.mem_cons,List.not_mem_nil,or_false] at hz;omega);have hz0':=hz2.1;have hz1':=hz2.2;have HX:=Fs (HX.out.step hs hc3);clear hz hs hc3 hI hz2;have hwz:=IntWalk.u8_in z ⟨hz0',hz1'⟩
   (try go_wp2_with fail)
   refine hK.out _ _ ?_ (fun hHeld=> ?_)
   ·(try dsimp only);first|exact ⟨hk1,hk2,hk3⟩|exact ⟨HX.out.vbox.cell 1 rfl,HX.out.rbox.cell 4 rfl,htc.out _ HX.out.st⟩
   clear hK K
   try go_frame
   refine Za 10 (some 72) hHeld _ ?_;try go_frame
   refine Za 11 (some 73) hHeld _ ?_;try go_frame
   refine Zh 12 (fun K hK=> ?_)
   (try go_simp)
   have hrow:=HX.out.gr.bytes;have hk0:∃u,X4.cell? ⟨gb,0,none⟩=some u:=(by rw [hrow.cellAt 0 (by omega)];exact ⟨_,List.getElem?_eq_getElem (by simp;omega)⟩);obtain ⟨uu,hk0⟩:=hk0;have hf0:=hrow.frozenAt 0;have HQ:=Fs (HX.out.putB (UInt8.ofNat z.toNat));have huz:u8v (UInt8.ofNat z.toNat)= .int .u8 z:=(by have e:((UInt8.ofNat z.toNat).toNat:Int)=z:=(by rw [UInt8.toNat_ofNat'];omega);unfold u8v;rw [e]);rw [huz] at HQ;have hk1:=HQ.out.vbox.cell 1 rfl;have hk2:=HQ.out.rbox.cell 4 rfl;have hk3:=htc.out _ HQ.out.st;clear hrow;go_simp
   refine hK.out _ _ ?_ (fun hHeld=> ?_)
   ·(try dsimp only);first|exact ⟨hk1,hk2,hk3⟩|exact ⟨HX.out.vbox.cell 1 rfl,HX.out.rbox.cell 4 rfl,htc.out _ HX.out.st⟩
   clear hK K
   try go_frame
   refine wpAnyH_done (by kernel_rfl) ?_ _
   obtain ⟨X5,hX5⟩:∃V,V=X4.setCell ⟨gb,0,none⟩ (.int .u8 z):=⟨_,rfl⟩
   rw [←hX5] at HQ ⊢
   clear hX5 hk1 hk2 hk3 hk0 hf0 HX
   obtain ⟨⟨q0,q1,q2,q3,q4,q5,q6,q7⟩,f0,f1,f2,f3,f4,f5,f6,f7⟩:=HQ.out.rbox.c8
   obtain ⟨⟨r0,r1,r2⟩,e0,e1,e2⟩:=HQ.out.res.c3
   obtain ⟨⟨p0,p1,p2⟩,g0,g1,g2⟩:=HQ.out.vbox.c3
   go_wp2
   obtain ⟨Wf,hWf,hR,hgo,hcu,⟨x,hxd,hxv,hxo⟩,hsz⟩:=(HQ.out).fin
   rw [←hWf]
   obtain ⟨⟨t0,t1,t2⟩, -⟩:=hR.c3
   refine bodyPost_ret (v:= .agg #[.int .i64 0, .slice (some ⟨gb,0,none⟩) xs.length cu, .slice none 0 0]) (by simp [results,results22,go_sem,t0,t1,t2]) rfl ⟨x,by rw [hxv],by rw [hxd];exact HVL.out _ (by simpa using hzl),by rw [hxd];exact Yk (by simpa using hzl) (by simp) (.inl rfl) (by simp),hxo,hgo,hcu⟩
 ·have hnI:¬(0:Int) < (xs.length:Int):=by omega
  have hnd:decide (0 < xs.length)=false:=Fx hn
  have hnd2:decide ((0:Int) < (xs.length:Int))=false:=Fx hnI
  go_wp2
  obtain ⟨Wf,hWf,hR,hgo,hcu,⟨x,hxd,hxv,hxo⟩,hsz⟩:=(H5.out.setB HO.out).fin
  rw [←hWf]
  obtain ⟨⟨t0,t1,t2⟩, -⟩:=hR.c3
  refine bodyPost_ret (v:= .agg #[.int .i64 0, .slice Au xs.length cu, .slice none 0 0]) (by simp [results,results22,go_sem,t0,t1,t2]) rfl ⟨x,by rw [hxv],by rw [hxd];exact HVL.out xs hzl,by rw [hxd];exact Yk hzl (by simp) (.inl rfl) (by simp),hxo,hgo,hcu⟩
theorem l9Make_all (b lo B:Nat) (v vD:Value) (l:List UInt8) (L:List RM) (hlo:b < lo) (hD:Ud (L.map RM.d)) (h9:L.length≤9) (k:Nat):k < L.length→MkVC b lo B v l vD L k:=by
 induction k using Nat.strongRecOn with
 |ind k ih=>
  intro hk M w h hd hB hM
  have hlm:(L.map RM.d).length=L.length:=List.length_map ..
  have RU:=hD.ruK (k:=k) (by rw [hlm];exact h9) (by rw [hlm];exact hk)
  have hkind:=RU.kind
  rw [List.getElem_map] at hkind
  have ih':∀j,j < k→MkVC b lo B v l vD L j:=fun j hj=> ih j hj (by omega)
  have hc:L[k].d.kind=1∨L[k].d.kind=2∨L[k].d.kind=3∨L[k].d.kind=4∨L[k].d.kind=5∨L[k].d.kind=6∨L[k].d.kind=7∨L[k].d.kind=8∨L[k].d.kind=9∨L[k].d.kind=10:=by omega
  rcases hc with e|e|e|e|e|e|e|e|e|e
  ·exact l9Make_1 b lo B v vD l L k M w h hd hlo hB hD h9 hk hM e
  ·exact l9Make_2 b lo B v vD l L k M w h hd hlo hB hD h9 hk hM e
  ·exact l9Make_3 b lo B v vD l L k M w h hd hlo hB hD h9 hk hM e
  ·exact l9Make_4 b lo B v vD l L k M w h hd hlo hB hD h9 hk hM e
  ·exact l9Make_5 b lo B v vD l L k M w h hd hlo hB hD h9 hk hM e ih'
  ·exact l9Make_6 b lo B v vD l L k M w h hd hlo hB hD h9 hk hM e ih'
  ·exact l9Make_7 b lo B v vD l L k M w h hd hlo hB hD h9 hk hM e ih'
  ·exact l9Make_8 b lo B v vD l L k M w h hd hlo hB hD h9 hk hM e ih'
  ·exact l9Make_9 b lo B v vD l L k M w h hd hlo hB hD h9 hk hM e ih'
  ·exact l9Make_10 b lo B v vD l L k M w h hd hlo hB hD h9 hk hM e
theorem l9Make_any (b lo B:Nat) (v vD:Value) (l:List UInt8) (L:List RM) (k M:Nat) (w:World) (h:Qo b v l w) (hd:Zy lo B (fun w'=> Qz w' B vD L) w) (hlo:b < lo) (hB:B≤w.heap.size) (hD:Ud (L.map RM.d)) (h9:L.length≤9) (hk:k < L.length) (hM:M≤1000):
  Calls prog 22 #[.pointer (some ⟨b,0,none⟩), .agg #[vD], .int .i64 k, .int .i64 M] w (Rr b v l L k w):=l9Make_all b lo B v vD l L hlo hD h9 k hk M w h hd hB hM
end Go.Proofs.YteldgdelmaeokaaGreatDoor
