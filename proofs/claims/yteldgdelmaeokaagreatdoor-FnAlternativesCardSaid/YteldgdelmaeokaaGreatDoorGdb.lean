/- Out of MkR1, MkR2, MkR3, MkR4, MkR5: the walks and plain laws that the claim needs. No condition but those that each theorem names. -/
import Derived.Test.YteldgdelmaeokaaGreatDoorGda
import Derived.Test.YteldgdelmaeokaaGreatDoorGa
import Derived.WalkSpells
import Derived.Deep.RegionHeld3
import Derived.Deep.DeepCutAuto
import Derived.WalkLawsBesides
set_option linter.unusedSimpArgs false
set_option linter.unusedVariables false
set_option maxHeartbeats 4000000
set_option maxRecDepth 100000
namespace Go.Proofs.YteldgdelmaeokaaGreatDoor
open Go.Proofs.Tryz Go.RowKit
theorem l4Make_1 (b lo B:Nat) (v vD:Value) (l:List UInt8) (L:List RM) (w:World) (h:Qo b v l w) (hd:Zy lo B (fun w'=> Qz w' B vD L) w) (hlo:b < lo) (hB:B≤w.heap.size) (hD:Ud (L.map RM.d)) (h8:L.length≤8):
  Calls prog 48 #[.pointer (some ⟨b,0,none⟩), .agg #[vD], .int .i64 1] w (Pk b v l L w):=by
 obtain ⟨A,c,rfl,hc,hm, -⟩:=hd.now.open_
 unfold maxLen at hm
 have hbw:=h.lt
 have hlm:(L.map RM.d).length=L.length:=List.length_map ..
 obtain ⟨W0,hW0⟩:∃W0,W0=(w.alloc (.cells #[.slice A L.length c] 26)).alloc (.cells #[.string ⟨#[]⟩, .int .i64 0, .int .i64 0, .bool false, .slice none 0 0, .slice none 0 0, .slice none 0 0, .slice none 0 0] 50):=⟨_,rfl⟩
 have hb0:Below w.heap.size w W0:=by rw [hW0];exact ((Fv w.heap.size w).alloc (Fu _) _).alloc (by simp) _
 have hz0:w.heap.size+2≤W0.heap.size:=by rw [hW0];simp
 have D0:Zo W0 w.heap.size 26 #[.slice A L.length c]:=by rw [hW0];exact (Zo.new w _ _).alloc _
 have R0:Zo W0 (w.heap.size+1) 50 #[.string ⟨#[]⟩, .int .i64 0, .int .i64 0, .bool false, .slice none 0 0, .slice none 0 0, .slice none 0 0, .slice none 0 0]:=by
  rw [hW0]
  have:=Zo.new (w.alloc (.cells #[.slice A L.length c] 26)) 50 #[.string ⟨#[]⟩, .int .i64 0, .int .i64 0, .bool false, .slice none 0 0, .slice none 0 0, .slice none 0 0, .slice none 0 0]
  simpa using this
 have s0:W0.cell? ⟨w.heap.size,0,none⟩=some (.slice A L.length c):=D0.cell 0 rfl
 have hc0:=h.below hb0
 have hd0:=hd.below hb0
 have hg0:Qx b w W0:=Qx.of_below hb0
 have H0:=Fs (Ft hc0 (Ft hd0 (Ft hg0 (Ft D0 R0))))
 have HD:=Fs hD
 clear h hd hD hc0 hd0 hg0 D0 R0 hb0
 go_enter func48,ntmps48
 go_upto_region 1 with fail
 rw [←hW0]
 clear hW0
 go_wp2_with fail
 refine (Yo b W0.heap.size (W0.heap.size+1) v _ l Tx _ (H0.out.1.alloc _) (Xy Tx _ rfl _ _ rfl rfl (by decide)) (by omega) (by decide) (by decide)).mono ?_
 rintro e w1 ⟨⟨x,hx,rfl⟩,hs,hz,hc1⟩
 have hx4:=(Qp x hx).2.2
 have hnm:=Pe (Qp x hx).1 (Qp x hx).2.1 hx4 (n:=L.length) (by omega)
 have hg1:=(Qx.of_below ((Fv W0.heap.size W0).alloc (Fu _) (.cells #[.string ⟨#[97]⟩, .string ⟨#[105,116,101,109]⟩, .string ⟨#[98]⟩, .string ⟨#[104,101,97,100]⟩, .string ⟨#[120]⟩] 9)) (b:=b)).trans hs
 have hz1:W0.heap.size≤w1.heap.size:=hg1.size
 have H1:=Fs (Ft hc1 (Ft (H0.out.2.1.go hg1 hlo) (Ft (H0.out.2.2.1.trans hg1) (Ft (H0.out.2.2.2.1.go hg1 (by omega)) (H0.out.2.2.2.2.go hg1 (by omega))))))
 clear hs hz hc1 hg1 H0 hx
 go_wp2_with fail
 refine (Qf L.length _ (by omega)).mono ?_
 rintro e w2 ⟨rfl,bel⟩
 have hyz:(Tg (Ye L.length)).size≤1:=by rw [Yi _ (by omega)];exact Fu _
 have HN:=Fs hnm
 have hz2:=bel.size
 have H2:=Fs (Ft (H1.out.1.below bel) (Ft (H1.out.2.1.below bel) (Ft (H1.out.2.2.1.trans (Qx.of_below bel)) (Ft (H1.out.2.2.2.1.below bel) (H1.out.2.2.2.2.below bel)))))
 have s2:w2.cell? ⟨w.heap.size,0,none⟩=some (.slice A L.length c):=H2.out.2.2.2.1.cell 0 rfl
 clear hnm bel H1 s0
 generalize Tg (Ye L.length)=y at*
 have hg2:w.heap.size < w2.heap.size:=by omega
 go_wp2_with fail
 generalize x++y=nm at*
 obtain ⟨W3,hW3⟩:∃W3,W3=w2.alloc (.cells #[.string nm, .int .i64 1, .int .i64 0, .bool false, .slice none 0 0, .slice none 0 0, .slice none 0 0, .slice none 0 0] 50):=⟨_,rfl⟩
 rw [←hW3]
 have H3:Py b lo B v l (.slice A L.length c) L w w2.heap.size #[.string nm, .int .i64 1, .int .i64 0, .bool false, .slice none 0 0, .slice none 0 0, .slice none 0 0, .slice none 0 0] W3:=by
  rw [hW3]
  exact ⟨H2.out.1.alloc _,H2.out.2.1.below ((Fv _ _).alloc (Fu _) _),H2.out.2.2.1.alloc _,H2.out.2.2.2.1.alloc _,H2.out.2.2.2.2.alloc _,Zo.new w2 _ _,hbw,hlo,by omega,hB⟩
 have HZ3:=Fs (show W3.heap.size=w2.heap.size+1 by rw [hW3];simp)
 clear hW3 H2 s2
 refine (Qn b b v l 3 W3 H3.cur (by omega) (by omega)).mono ?_
 rintro e w3 ⟨⟨z,rfl,hz0',hz1'⟩,hs,hzq,hc3⟩
 clear hzq
 have H4:=Fs (H3.step hs hc3)
 clear H3 hs hc3
 obtain ⟨⟨q0,q1,q2,q3,q4,q5,q6,q7⟩,f0,f1,f2,f3,f4,f5,f6,f7⟩:=H4.out.box.c8
 obtain ⟨⟨r0,r1,r2,r3,r4,r5,r6,r7⟩,e0,e1,e2,e3,e4,e5,e6,e7⟩:=H4.out.res.c8
 by_cases h0:z=0
 ·subst h0
  go_wp2_with fail
  have H5:=(H4.out.set 2 (.int .i64 1)).set 3 (.bool false)
  obtain ⟨Wf,hWf,hR,hgo,hcu,hsz,hk⟩:=H5.fin (.string nm) (.int .i64 1) (.int .i64 1) (.bool false) (.slice none 0 0) (.slice none 0 0) (.slice none 0 0) (.slice none 0 0)
  rw [←hWf]
  obtain ⟨⟨t0,t1,t2,t3,t4,t5,t6,t7⟩, -⟩:=hR.c8
  refine bodyPost_ret (v:= .agg #[.string nm, .int .i64 1, .int .i64 1, .bool false, .slice none 0 0, .slice none 0 0, .slice none 0 0, .slice none 0 0]) (by simp [results,results48,go_sem,t0,t1,t2,t3,t4,t5,t6,t7]) rfl ?_
  refine ⟨⟨⟨nm,1,1,false, [], [], [], []⟩, .slice none 0 0, .slice none 0 0, .slice none 0 0, .slice none 0 0⟩,rfl,dr_int (by rw [hlm];exact HN.out) (by omega) (by omega) (by simp),⟨Fu _,fun w2 h2 k2=> ⟨Sl.nil _ _ _,Sl.nil _ _ _,Sl.nil _ _ _,Sl.nil _ _ _⟩⟩,hgo,hcu⟩
 ·have hzp:1 < 1+z:=by omega
  go_wp2_with fail
  have H5:=H4.out.set 2 (.int .i64 (1+z))
  refine (Vn b b v l 2 _ H5.cur (by omega) (by omega)).mono ?_
  rintro e w4 ⟨⟨t,rfl⟩,hs4,hzq,hc4⟩
  clear hzq
  have H6:=Fs (H5.step hs4 hc4)
  clear H5 hs4 hc4 q0 q1 q2 q3 q4 q5 q6 q7 f0 f1 f2 f3 f4 f5 f6 f7 r0 r1 r2 r3 r4 r5 r6 r7 e0 e1 e2 e3 e4 e5 e6 e7
  obtain ⟨⟨q0,q1,q2,q3,q4,q5,q6,q7⟩,f0,f1,f2,f3,f4,f5,f6,f7⟩:=Zo.c8 (a2:= .int .i64 (1+z)) H6.out.box
  obtain ⟨⟨r0,r1,r2,r3,r4,r5,r6,r7⟩,e0,e1,e2,e3,e4,e5,e6,e7⟩:=H6.out.res.c8
  go_wp2_with fail
  have H5:=H6.out.set 3 (.bool t)
  obtain ⟨Wf,hWf,hR,hgo,hcu,hsz,hk⟩:=H5.fin (.string nm) (.int .i64 1) (.int .i64 (1+z)) (.bool t) (.slice none 0 0) (.slice none 0 0) (.slice none 0 0) (.slice none 0 0)
  rw [←hWf]
  obtain ⟨⟨t0,t1,t2,t3,t4,t5,t6,t7⟩, -⟩:=hR.c8
  refine bodyPost_ret (v:= .agg #[.string nm, .int .i64 1, .int .i64 (1+z), .bool t, .slice none 0 0, .slice none 0 0, .slice none 0 0, .slice none 0 0]) (by simp [results,results48,go_sem,t0,t1,t2,t3,t4,t5,t6,t7]) rfl ?_
  refine ⟨⟨⟨nm,1,(1+z),t, [], [], [], []⟩, .slice none 0 0, .slice none 0 0, .slice none 0 0, .slice none 0 0⟩,rfl,dr_int (by rw [hlm];exact HN.out) (by omega) (by omega) (by omega),⟨Fu _,fun w2 h2 k2=> ⟨Sl.nil _ _ _,Sl.nil _ _ _,Sl.nil _ _ _,Sl.nil _ _ _⟩⟩,hgo,hcu⟩
theorem l4Make_2 (b lo B:Nat) (v vD:Value) (l:List UInt8) (L:List RM) (w:World) (h:Qo b v l w) (hd:Zy lo B (fun w'=> Qz w' B vD L) w) (hlo:b < lo) (hB:B≤w.heap.size) (hD:Ud (L.map RM.d)) (hL0:0 < L.length) (h8:L.length≤8):
  Calls prog 48 #[.pointer (some ⟨b,0,none⟩), .agg #[vD], .int .i64 2] w (Pk b v l L w):=by
 obtain ⟨A,c,rfl,hc,hm, -⟩:=hd.now.open_
 unfold maxLen at hm
 have hbw:=h.lt
 have hlm:(L.map RM.d).length=L.length:=List.length_map ..
 obtain ⟨W0,hW0⟩:∃W0,W0=(w.alloc (.cells #[.slice A L.length c] 26)).alloc (.cells #[.string ⟨#[]⟩, .int .i64 0, .int .i64 0, .bool false, .slice none 0 0, .slice none 0 0, .slice none 0 0, .slice none 0 0] 50):=⟨_,rfl⟩
 have hb0:Below w.heap.size w W0:=by rw [hW0];exact ((Fv w.heap.size w).alloc (Fu _) _).alloc (by simp) _
 have hz0:w.heap.size+2≤W0.heap.size:=by rw [hW0];simp
 have D0:Zo W0 w.heap.size 26 #[.slice A L.length c]:=by rw [hW0];exact (Zo.new w _ _).alloc _
 have R0:Zo W0 (w.heap.size+1) 50 #[.string ⟨#[]⟩, .int .i64 0, .int .i64 0, .bool false, .slice none 0 0, .slice none 0 0, .slice none 0 0, .slice none 0 0]:=by
  rw [hW0]
  have:=Zo.new (w.alloc (.cells #[.slice A L.length c] 26)) 50 #[.string ⟨#[]⟩, .int .i64 0, .int .i64 0, .bool false, .slice none 0 0, .slice none 0 0, .slice none 0 0, .slice none 0 0]
  simpa using this
 have s0:W0.cell? ⟨w.heap.size,0,none⟩=some (.slice A L.length c):=D0.cell 0 rfl
 have hc0:=h.below hb0
 have hd0:=hd.below hb0
 have hg0:Qx b w W0:=Qx.of_below hb0
 have H0:=Fs (Ft hc0 (Ft hd0 (Ft hg0 (Ft D0 R0))))
 have HD:=Fs hD
 clear h hd hD hc0 hd0 hg0 D0 R0 hb0
 go_enter func48,ntmps48
 go_upto_region 1 with fail
 rw [←hW0]
 clear hW0
 go_wp2_with fail
 refine (Yo b W0.heap.size (W0.heap.size+1) v _ l Tx _ (H0.out.1.alloc _) (Xy Tx _ rfl _ _ rfl rfl (by decide)) (by omega) (by decide) (by decide)).mono ?_
 rintro e w1 ⟨⟨x,hx,rfl⟩,hs,hz,hc1⟩
 have hx4:=(Qp x hx).2.2
 have hnm:=Pe (Qp x hx).1 (Qp x hx).2.1 hx4 (n:=L.length) (by omega)
 have hg1:=(Qx.of_below ((Fv W0.heap.size W0).alloc (Fu _) (.cells #[.string ⟨#[97]⟩, .string ⟨#[105,116,101,109]⟩, .string ⟨#[98]⟩, .string ⟨#[104,101,97,100]⟩, .string ⟨#[120]⟩] 9)) (b:=b)).trans hs
 have hz1:W0.heap.size≤w1.heap.size:=hg1.size
 have H1:=Fs (Ft hc1 (Ft (H0.out.2.1.go hg1 hlo) (Ft (H0.out.2.2.1.trans hg1) (Ft (H0.out.2.2.2.1.go hg1 (by omega)) (H0.out.2.2.2.2.go hg1 (by omega))))))
 clear hs hz hc1 hg1 H0 hx
 go_wp2_with fail
 refine (Qf L.length _ (by omega)).mono ?_
 rintro e w2 ⟨rfl,bel⟩
 have hyz:(Tg (Ye L.length)).size≤1:=by rw [Yi _ (by omega)];exact Fu _
 have HN:=Fs hnm
 have hz2:=bel.size
 have H2:=Fs (Ft (H1.out.1.below bel) (Ft (H1.out.2.1.below bel) (Ft (H1.out.2.2.1.trans (Qx.of_below bel)) (Ft (H1.out.2.2.2.1.below bel) (H1.out.2.2.2.2.below bel)))))
 have s2:w2.cell? ⟨w.heap.size,0,none⟩=some (.slice A L.length c):=H2.out.2.2.2.1.cell 0 rfl
 clear hnm bel H1 s0
 generalize Tg (Ye L.length)=y at*
 have hg2:w.heap.size < w2.heap.size:=by omega
 go_wp2_with fail
 generalize x++y=nm at*
 obtain ⟨W3,hW3⟩:∃W3,W3=w2.alloc (.cells #[.string nm, .int .i64 2, .int .i64 0, .bool false, .slice none 0 0, .slice none 0 0, .slice none 0 0, .slice none 0 0] 50):=⟨_,rfl⟩
 rw [←hW3]
 have H3:Py b lo B v l (.slice A L.length c) L w w2.heap.size #[.string nm, .int .i64 2, .int .i64 0, .bool false, .slice none 0 0, .slice none 0 0, .slice none 0 0, .slice none 0 0] W3:=by
  rw [hW3]
  exact ⟨H2.out.1.alloc _,H2.out.2.1.below ((Fv _ _).alloc (Fu _) _),H2.out.2.2.1.alloc _,H2.out.2.2.2.1.alloc _,H2.out.2.2.2.2.alloc _,Zo.new w2 _ _,hbw,hlo,by omega,hB⟩
 have HZ3:=Fs (show W3.heap.size=w2.heap.size+1 by rw [hW3];simp)
 clear hW3 H2 s2
 refine (Qn b b v l 3 W3 H3.cur (by omega) (by omega)).mono ?_
 rintro e w3 ⟨⟨z,rfl,hz0',hz1'⟩,hs,hzq,hc3⟩
 clear hzq
 obtain ⟨zn,rfl⟩:=Int.eq_ofNat_of_zero_le hz0'
 have H4:=Fs (H3.step hs hc3)
 clear H3 hs hc3
 go_wp2_with fail
 rw [show (1:Int)+(zn:Int)=((1+zn:Nat):Int) by omega]
 refine (Ti b v l (1+zn) w3 H4.out.cur (by omega)).mono ?_
 rintro e w4 ⟨u,xs,rfl,hxl,hown,hs4,hc4⟩
 have HXL:=Fs hxl
 clear hxl
 have hgl:=H4.out.box.lt
 obtain ⟨Au,cu,rfl⟩:=Zq hown
 have H6:=Fs (H4.out.step hs4 hc4)
 have HO:=Fs hown
 have hs4z:=hs4.size
 clear hs4 hc4 H4 hown
 obtain ⟨⟨q0,q1,q2,q3,q4,q5,q6,q7⟩,f0,f1,f2,f3,f4,f5,f6,f7⟩:=H6.out.box.c8
 obtain ⟨⟨r0,r1,r2,r3,r4,r5,r6,r7⟩,e0,e1,e2,e3,e4,e5,e6,e7⟩:=H6.out.res.c8
 go_wp2_with fail
 have H5:=H6.out.set 4 (.slice Au xs.length cu)
 obtain ⟨Wf,hWf,hR,hgo,hcu,hsz,hk⟩:=H5.fin (.string nm) (.int .i64 2) (.int .i64 0) (.bool false) (.slice Au xs.length cu) (.slice none 0 0) (.slice none 0 0) (.slice none 0 0)
 rw [←hWf]
 obtain ⟨⟨t0,t1,t2,t3,t4,t5,t6,t7⟩, -⟩:=hR.c8
 refine bodyPost_ret (v:= .agg #[.string nm, .int .i64 2, .int .i64 0, .bool false, .slice Au xs.length cu, .slice none 0 0, .slice none 0 0, .slice none 0 0]) (by simp [results,results48,go_sem,t0,t1,t2,t3,t4,t5,t6,t7]) rfl ?_
 refine ⟨⟨⟨nm,2,0,false,xs, [], [], []⟩, .slice Au xs.length cu, .slice none 0 0, .slice none 0 0, .slice none 0 0⟩,rfl,dr_const (by rw [hlm];exact HN.out) (by rw [hlm];exact hL0) (by have:=HXL.out;omega) (by have:=HXL.out;omega),?_,hgo,hcu⟩
 have hrow:=(Le (lo:=w.heap.size) (hi:=Wf.heap.size) (Ql (w':=Wf) (own_set HO.out (j:=4) (show w2.heap.size < w3.heap.size from hgl) (.slice Au xs.length cu)) fun q hq=> hk q (by have:=(HO.out.lt q hq).1;omega)) (by omega) (fun q hq=> by rw [hsz];have:=(HO.out.lt q hq).2;simpa using this) (Fu _))
 exact hrow.imp fun w2 h2=> ⟨h2,Sl.nil _ _ _,Sl.nil _ _ _,Sl.nil _ _ _⟩
theorem l4Make_3 (b lo B:Nat) (v vD:Value) (l:List UInt8) (L:List RM) (w:World) (h:Qo b v l w) (hd:Zy lo B (fun w'=> Qz w' B vD L) w) (hlo:b < lo) (hB:B≤w.heap.size) (hD:Ud (L.map RM.d)) (hL0:0 < L.length) (h8:L.length≤8):
  Calls prog 48 #[.pointer (some ⟨b,0,none⟩), .agg #[vD], .int .i64 3] w (Pk b v l L w):=by
 obtain ⟨A,c,rfl,hc,hm, -⟩:=hd.now.open_
 unfold maxLen at hm
 have hbw:=h.lt
 have hlm:(L.map RM.d).length=L.length:=List.length_map ..
 obtain ⟨W0,hW0⟩:∃W0,W0=(w.alloc (.cells #[.slice A L.length c] 26)).alloc (.cells #[.string ⟨#[]⟩, .int .i64 0, .int .i64 0, .bool false, .slice none 0 0, .slice none 0 0, .slice none 0 0, .slice none 0 0] 50):=⟨_,rfl⟩
 have hb0:Below w.heap.size w W0:=by rw [hW0];exact ((Fv w.heap.size w).alloc (Fu _) _).alloc (by simp) _
 have hz0:w.heap.size+2≤W0.heap.size:=by rw [hW0];simp
 have D0:Zo W0 w.heap.size 26 #[.slice A L.length c]:=by rw [hW0];exact (Zo.new w _ _).alloc _
 have R0:Zo W0 (w.heap.size+1) 50 #[.string ⟨#[]⟩, .int .i64 0, .int .i64 0, .bool false, .slice none 0 0, .slice none 0 0, .slice none 0 0, .slice none 0 0]:=by
  rw [hW0]
  have:=Zo.new (w.alloc (.cells #[.slice A L.length c] 26)) 50 #[.string ⟨#[]⟩, .int .i64 0, .int .i64 0, .bool false, .slice none 0 0, .slice none 0 0, .slice none 0 0, .slice none 0 0]
  simpa using this
 have s0:W0.cell? ⟨w.heap.size,0,none⟩=some (.slice A L.length c):=D0.cell 0 rfl
 have hc0:=h.below hb0
 have hd0:=hd.below hb0
 have hg0:Qx b w W0:=Qx.of_below hb0
 have H0:=Fs (Ft hc0 (Ft hd0 (Ft hg0 (Ft D0 R0))))
 have HD:=Fs hD
 clear h hd hD hc0 hd0 hg0 D0 R0 hb0
 go_enter func48,ntmps48
 go_upto_region 1 with fail
 rw [←hW0]
 clear hW0
 go_wp2_with fail
 refine (Yo b W0.heap.size (W0.heap.size+1) v _ l Tx _ (H0.out.1.alloc _) (Xy Tx _ rfl _ _ rfl rfl (by decide)) (by omega) (by decide) (by decide)).mono ?_
 rintro e w1 ⟨⟨x,hx,rfl⟩,hs,hz,hc1⟩
 have hx4:=(Qp x hx).2.2
 have hnm:=Pe (Qp x hx).1 (Qp x hx).2.1 hx4 (n:=L.length) (by omega)
 have hg1:=(Qx.of_below ((Fv W0.heap.size W0).alloc (Fu _) (.cells #[.string ⟨#[97]⟩, .string ⟨#[105,116,101,109]⟩, .string ⟨#[98]⟩, .string ⟨#[104,101,97,100]⟩, .string ⟨#[120]⟩] 9)) (b:=b)).trans hs
 have hz1:W0.heap.size≤w1.heap.size:=hg1.size
 have H1:=Fs (Ft hc1 (Ft (H0.out.2.1.go hg1 hlo) (Ft (H0.out.2.2.1.trans hg1) (Ft (H0.out.2.2.2.1.go hg1 (by omega)) (H0.out.2.2.2.2.go hg1 (by omega))))))
 clear hs hz hc1 hg1 H0 hx
 go_wp2_with fail
 refine (Qf L.length _ (by omega)).mono ?_
 rintro e w2 ⟨rfl,bel⟩
 have hyz:(Tg (Ye L.length)).size≤1:=by rw [Yi _ (by omega)];exact Fu _
 have HN:=Fs hnm
 have hz2:=bel.size
 have H2:=Fs (Ft (H1.out.1.below bel) (Ft (H1.out.2.1.below bel) (Ft (H1.out.2.2.1.trans (Qx.of_below bel)) (Ft (H1.out.2.2.2.1.below bel) (H1.out.2.2.2.2.below bel)))))
 have s2:w2.cell? ⟨w.heap.size,0,none⟩=some (.slice A L.length c):=H2.out.2.2.2.1.cell 0 rfl
 clear hnm bel H1 s0
 generalize Tg (Ye L.length)=y at*
 have hg2:w.heap.size < w2.heap.size:=by omega
 go_wp2_with fail
 generalize x++y=nm at*
 obtain ⟨W3,hW3⟩:∃W3,W3=w2.alloc (.cells #[.string nm, .int .i64 3, .int .i64 0, .bool false, .slice none 0 0, .slice none 0 0, .slice none 0 0, .slice none 0 0] 50):=⟨_,rfl⟩
 rw [←hW3]
 have H3:Py b lo B v l (.slice A L.length c) L w w2.heap.size #[.string nm, .int .i64 3, .int .i64 0, .bool false, .slice none 0 0, .slice none 0 0, .slice none 0 0, .slice none 0 0] W3:=by
  rw [hW3]
  exact ⟨H2.out.1.alloc _,H2.out.2.1.below ((Fv _ _).alloc (Fu _) _),H2.out.2.2.1.alloc _,H2.out.2.2.2.1.alloc _,H2.out.2.2.2.2.alloc _,Zo.new w2 _ _,hbw,hlo,by omega,hB⟩
 have HZ3:=Fs (show W3.heap.size=w2.heap.size+1 by rw [hW3];simp)
 clear hW3 H2 s2
 refine (Qn b b v l 4 W3 H3.cur (by omega) (by omega)).mono ?_
 rintro e w3 ⟨⟨z,rfl,hz0',hz1'⟩,hs,hzq,hc3⟩
 clear hzq
 have H4:=Fs (H3.step hs hc3)
 clear H3 hs hc3
 obtain ⟨⟨q0,q1,q2,q3,q4,q5,q6,q7⟩,f0,f1,f2,f3,f4,f5,f6,f7⟩:=H4.out.box.c8
 obtain ⟨⟨r0,r1,r2,r3,r4,r5,r6,r7⟩,e0,e1,e2,e3,e4,e5,e6,e7⟩:=H4.out.res.c8
 go_wp2_with fail
 have H5:=H4.out.set 2 (.int .i64 (1+z))
 obtain ⟨Wf,hWf,hR,hgo,hcu,hsz,hk⟩:=H5.fin (.string nm) (.int .i64 3) (.int .i64 (1+z)) (.bool false) (.slice none 0 0) (.slice none 0 0) (.slice none 0 0) (.slice none 0 0)
 rw [←hWf]
 obtain ⟨⟨t0,t1,t2,t3,t4,t5,t6,t7⟩, -⟩:=hR.c8
 refine bodyPost_ret (v:= .agg #[.string nm, .int .i64 3, .int .i64 (1+z), .bool false, .slice none 0 0, .slice none 0 0, .slice none 0 0, .slice none 0 0]) (by simp [results,results48,go_sem,t0,t1,t2,t3,t4,t5,t6,t7]) rfl ?_
 refine ⟨⟨⟨nm,3,(1+z),false, [], [], [], []⟩, .slice none 0 0, .slice none 0 0, .slice none 0 0, .slice none 0 0⟩,rfl,dr_fixed (by rw [hlm];exact HN.out) (by rw [hlm];exact hL0) (by omega) (by omega),⟨Fu _,fun w2 h2 k2=> ⟨Sl.nil _ _ _,Sl.nil _ _ _,Sl.nil _ _ _,Sl.nil _ _ _⟩⟩,hgo,hcu⟩
theorem l4Make_4 (b lo B:Nat) (v vD:Value) (l:List UInt8) (L:List RM) (w:World) (h:Qo b v l w) (hd:Zy lo B (fun w'=> Qz w' B vD L) w) (hlo:b < lo) (hB:B≤w.heap.size) (hD:Ud (L.map RM.d)) (hL0:0 < L.length) (h8:L.length≤8):
  Calls prog 48 #[.pointer (some ⟨b,0,none⟩), .agg #[vD], .int .i64 4] w (Pk b v l L w):=by
 obtain ⟨A,c,rfl,hc,hm, -⟩:=hd.now.open_
 unfold maxLen at hm
 have hbw:=h.lt
 have hlm:(L.map RM.d).length=L.length:=List.length_map ..
 obtain ⟨W0,hW0⟩:∃W0,W0=(w.alloc (.cells #[.slice A L.length c] 26)).alloc (.cells #[.string ⟨#[]⟩, .int .i64 0, .int .i64 0, .bool false, .slice none 0 0, .slice none 0 0, .slice none 0 0, .slice none 0 0] 50):=⟨_,rfl⟩
 have hb0:Below w.heap.size w W0:=by rw [hW0];exact ((Fv w.heap.size w).alloc (Fu _) _).alloc (by simp) _
 have hz0:w.heap.size+2≤W0.heap.size:=by rw [hW0];simp
 have D0:Zo W0 w.heap.size 26 #[.slice A L.length c]:=by rw [hW0];exact (Zo.new w _ _).alloc _
 have R0:Zo W0 (w.heap.size+1) 50 #[.string ⟨#[]⟩, .int .i64 0, .int .i64 0, .bool false, .slice none 0 0, .slice none 0 0, .slice none 0 0, .slice none 0 0]:=by
  rw [hW0]
  have:=Zo.new (w.alloc (.cells #[.slice A L.length c] 26)) 50 #[.string ⟨#[]⟩, .int .i64 0, .int .i64 0, .bool false, .slice none 0 0, .slice none 0 0, .slice none 0 0, .slice none 0 0]
  simpa using this
 have s0:W0.cell? ⟨w.heap.size,0,none⟩=some (.slice A L.length c):=D0.cell 0 rfl
 have hc0:=h.below hb0
 have hd0:=hd.below hb0
 have hg0:Qx b w W0:=Qx.of_below hb0
 have H0:=Fs (Ft hc0 (Ft hd0 (Ft hg0 (Ft D0 R0))))
 have HD:=Fs hD
 clear h hd hD hc0 hd0 hg0 D0 R0 hb0
 go_enter func48,ntmps48
 go_upto_region 1 with fail
 rw [←hW0]
 clear hW0
 go_wp2_with fail
 refine (Yo b W0.heap.size (W0.heap.size+1) v _ l Tx _ (H0.out.1.alloc _) (Xy Tx _ rfl _ _ rfl rfl (by decide)) (by omega) (by decide) (by decide)).mono ?_
 rintro e w1 ⟨⟨x,hx,rfl⟩,hs,hz,hc1⟩
 have hx4:=(Qp x hx).2.2
 have hnm:=Pe (Qp x hx).1 (Qp x hx).2.1 hx4 (n:=L.length) (by omega)
 have hg1:=(Qx.of_below ((Fv W0.heap.size W0).alloc (Fu _) (.cells #[.string ⟨#[97]⟩, .string ⟨#[105,116,101,109]⟩, .string ⟨#[98]⟩, .string ⟨#[104,101,97,100]⟩, .string ⟨#[120]⟩] 9)) (b:=b)).trans hs
 have hz1:W0.heap.size≤w1.heap.size:=hg1.size
 have H1:=Fs (Ft hc1 (Ft (H0.out.2.1.go hg1 hlo) (Ft (H0.out.2.2.1.trans hg1) (Ft (H0.out.2.2.2.1.go hg1 (by omega)) (H0.out.2.2.2.2.go hg1 (by omega))))))
 clear hs hz hc1 hg1 H0 hx
 go_wp2_with fail
 refine (Qf L.length _ (by omega)).mono ?_
 rintro e w2 ⟨rfl,bel⟩
 have hyz:(Tg (Ye L.length)).size≤1:=by rw [Yi _ (by omega)];exact Fu _
 have HN:=Fs hnm
 have hz2:=bel.size
 have H2:=Fs (Ft (H1.out.1.below bel) (Ft (H1.out.2.1.below bel) (Ft (H1.out.2.2.1.trans (Qx.of_below bel)) (Ft (H1.out.2.2.2.1.below bel) (H1.out.2.2.2.2.below bel)))))
 have s2:w2.cell? ⟨w.heap.size,0,none⟩=some (.slice A L.length c):=H2.out.2.2.2.1.cell 0 rfl
 clear hnm bel H1 s0
 generalize Tg (Ye L.length)=y at*
 have hg2:w.heap.size < w2.heap.size:=by omega
 go_wp2_with fail
 generalize x++y=nm at*
 obtain ⟨W3,hW3⟩:∃W3,W3=w2.alloc (.cells #[.string nm, .int .i64 4, .int .i64 0, .bool false, .slice none 0 0, .slice none 0 0, .slice none 0 0, .slice none 0 0] 50):=⟨_,rfl⟩
 rw [←hW3]
 have H3:Py b lo B v l (.slice A L.length c) L w w2.heap.size #[.string nm, .int .i64 4, .int .i64 0, .bool false, .slice none 0 0, .slice none 0 0, .slice none 0 0, .slice none 0 0] W3:=by
  rw [hW3]
  exact ⟨H2.out.1.alloc _,H2.out.2.1.below ((Fv _ _).alloc (Fu _) _),H2.out.2.2.1.alloc _,H2.out.2.2.2.1.alloc _,H2.out.2.2.2.2.alloc _,Zo.new w2 _ _,hbw,hlo,by omega,hB⟩
 have HZ3:=Fs (show W3.heap.size=w2.heap.size+1 by rw [hW3];simp)
 clear hW3 H2 s2
 have hh1:L[0].d.kind=1:=by have:=HD.out.head (by rw [hlm];exact hL0);rwa [List.getElem_map] at this
 refine (Rk b lo B v (.slice A L.length c) l L W3 H3.cur H3.st hlo (by have:=H3.go.size;omega) hL0 (by omega) hh1).mono ?_
 rintro e w3 ⟨⟨k,hkl,rfl,hkk⟩,hs,hc3⟩
 have H4:=Fs (H3.step hs hc3)
 clear H3 hs hc3
 have hgl:=H4.out.box.lt
 have hrl:=H4.out.res.lt
 have hgs:=H4.out.go.size
 obtain ⟨⟨q0,q1,q2,q3,q4,q5,q6,q7⟩,f0,f1,f2,f3,f4,f5,f6,f7⟩:=H4.out.box.c8
 obtain ⟨⟨r0,r1,r2,r3,r4,r5,r6,r7⟩,e0,e1,e2,e3,e4,e5,e6,e7⟩:=H4.out.res.c8
 go_wp2_with fail
 have H5:=H4.out.set 7 (.slice (some ⟨w3.heap.size,0,none⟩) 1 1)
 obtain ⟨Wf,hWf,hR,hgo,hcu,hsz,hk⟩:=H5.fin (.string nm) (.int .i64 4) (.int .i64 0) (.bool false) (.slice none 0 0) (.slice none 0 0) (.slice none 0 0) (.slice (some ⟨w3.heap.size,0,none⟩) 1 1)
 rw [←hWf]
 have hsz2:Wf.heap.size=w3.heap.size:=by rw [hsz];simp [World.setCell]
 have HB:Zo (Wf.alloc (.cells #[.int .i64 k] 3)) w3.heap.size 3 #[.int .i64 k]:=by rw [←hsz2];exact Zo.new _ _ _
 have hlt:=HB.lt
 obtain ⟨⟨t0,t1,t2,t3,t4,t5,t6,t7⟩, -⟩:=(hR.alloc (.cells #[.int .i64 k] 3)).c8
 refine bodyPost_ret (v:= .agg #[.string nm, .int .i64 4, .int .i64 0, .bool false, .slice none 0 0, .slice none 0 0, .slice none 0 0, .slice (some ⟨w3.heap.size,0,none⟩) 1 1]) (by simp only [results,results48];go_simp) rfl ?_
 refine ⟨⟨⟨nm,4,0,false, [], [], [], [(k:Int)]⟩, .slice none 0 0, .slice none 0 0, .slice none 0 0, .slice (some ⟨w3.heap.size,0,none⟩) 1 1⟩,rfl,dr_sized (by rw [hlm];exact HN.out) (by omega) (by rw [hlm];omega) (by have:=HD.out.limit (k:=k) (by rw [hlm];exact hkl) (by rw [List.getElem_map];exact hkk);exact this.1),?_,hgo.alloc _,hcu.alloc _⟩
 exact ⟨Fu _,fun w5 h5 k5=> ⟨Sl.nil _ _ _,Sl.nil _ _ _,Sl.nil _ _ _,Rx (show Zo w5 _ 3 _ from (k5 _ (by omega) hlt).trans HB) rfl (by simp [maxLen]) hlt⟩⟩
theorem l4Make_5 (b lo B:Nat) (v vD:Value) (l:List UInt8) (L:List RM) (w:World) (h:Qo b v l w) (hd:Zy lo B (fun w'=> Qz w' B vD L) w) (hlo:b < lo) (hB:B≤w.heap.size) (hD:Ud (L.map RM.d)) (hL0:0 < L.length) (h8:L.length≤8):
  Calls prog 48 #[.pointer (some ⟨b,0,none⟩), .agg #[vD], .int .i64 5] w (Pk b v l L w):=by
 obtain ⟨A,c,rfl,hc,hm, -⟩:=hd.now.open_
 unfold maxLen at hm
 have hbw:=h.lt
 have hlm:(L.map RM.d).length=L.length:=List.length_map ..
 obtain ⟨W0,hW0⟩:∃W0,W0=(w.alloc (.cells #[.slice A L.length c] 26)).alloc (.cells #[.string ⟨#[]⟩, .int .i64 0, .int .i64 0, .bool false, .slice none 0 0, .slice none 0 0, .slice none 0 0, .slice none 0 0] 50):=⟨_,rfl⟩
 have hb0:Below w.heap.size w W0:=by rw [hW0];exact ((Fv w.heap.size w).alloc (Fu _) _).alloc (by simp) _
 have hz0:w.heap.size+2≤W0.heap.size:=by rw [hW0];simp
 have D0:Zo W0 w.heap.size 26 #[.slice A L.length c]:=by rw [hW0];exact (Zo.new w _ _).alloc _
 have R0:Zo W0 (w.heap.size+1) 50 #[.string ⟨#[]⟩, .int .i64 0, .int .i64 0, .bool false, .slice none 0 0, .slice none 0 0, .slice none 0 0, .slice none 0 0]:=by
  rw [hW0]
  have:=Zo.new (w.alloc (.cells #[.slice A L.length c] 26)) 50 #[.string ⟨#[]⟩, .int .i64 0, .int .i64 0, .bool false, .slice none 0 0, .slice none 0 0, .slice none 0 0, .slice none 0 0]
  simpa using this
 have s0:W0.cell? ⟨w.heap.size,0,none⟩=some (.slice A L.length c):=D0.cell 0 rfl
 have hc0:=h.below hb0
 have hd0:=hd.below hb0
 have hg0:Qx b w W0:=Qx.of_below hb0
 have H0:=Fs (Ft hc0 (Ft hd0 (Ft hg0 (Ft D0 R0))))
 have HD:=Fs hD
 clear h hd hD hc0 hd0 hg0 D0 R0 hb0
 go_enter func48,ntmps48
 go_upto_region 1 with fail
 rw [←hW0]
 clear hW0
 go_wp2_with fail
 refine (Yo b W0.heap.size (W0.heap.size+1) v _ l Tx _ (H0.out.1.alloc _) (Xy Tx _ rfl _ _ rfl rfl (by decide)) (by omega) (by decide) (by decide)).mono ?_
 rintro e w1 ⟨⟨x,hx,rfl⟩,hs,hz,hc1⟩
 have hx4:=(Qp x hx).2.2
 have hnm:=Pe (Qp x hx).1 (Qp x hx).2.1 hx4 (n:=L.length) (by omega)
 have hg1:=(Qx.of_below ((Fv W0.heap.size W0).alloc (Fu _) (.cells #[.string ⟨#[97]⟩, .string ⟨#[105,116,101,109]⟩, .string ⟨#[98]⟩, .string ⟨#[104,101,97,100]⟩, .string ⟨#[120]⟩] 9)) (b:=b)).trans hs
 have hz1:W0.heap.size≤w1.heap.size:=hg1.size
 have H1:=Fs (Ft hc1 (Ft (H0.out.2.1.go hg1 hlo) (Ft (H0.out.2.2.1.trans hg1) (Ft (H0.out.2.2.2.1.go hg1 (by omega)) (H0.out.2.2.2.2.go hg1 (by omega))))))
 clear hs hz hc1 hg1 H0 hx
 go_wp2_with fail
 refine (Qf L.length _ (by omega)).mono ?_
 rintro e w2 ⟨rfl,bel⟩
 have hyz:(Tg (Ye L.length)).size≤1:=by rw [Yi _ (by omega)];exact Fu _
 have HN:=Fs hnm
 have hz2:=bel.size
 have H2:=Fs (Ft (H1.out.1.below bel) (Ft (H1.out.2.1.below bel) (Ft (H1.out.2.2.1.trans (Qx.of_below bel)) (Ft (H1.out.2.2.2.1.below bel) (H1.out.2.2.2.2.below bel)))))
 have s2:w2.cell? ⟨w.heap.size,0,none⟩=some (.slice A L.length c):=H2.out.2.2.2.1.cell 0 rfl
 clear hnm bel H1 s0
 generalize Tg (Ye L.length)=y at*
 have hg2:w.heap.size < w2.heap.size:=by omega
 go_wp2_with fail
 generalize x++y=nm at*
 obtain ⟨W3,hW3⟩:∃W3,W3=w2.alloc (.cells #[.string nm, .int .i64 5, .int .i64 0, .bool false, .slice none 0 0, .slice none 0 0, .slice none 0 0, .slice none 0 0] 50):=⟨_,rfl⟩
 rw [←hW3]
 have H3:Py b lo B v l (.slice A L.length c) L w w2.heap.size #[.string nm, .int .i64 5, .int .i64 0, .bool false, .slice none 0 0, .slice none 0 0, .slice none 0 0, .slice none 0 0] W3:=by
  rw [hW3]
  exact ⟨H2.out.1.alloc _,H2.out.2.1.below ((Fv _ _).alloc (Fu _) _),H2.out.2.2.1.alloc _,H2.out.2.2.2.1.alloc _,H2.out.2.2.2.2.alloc _,Zo.new w2 _ _,hbw,hlo,by omega,hB⟩
 have HZ3:=Fs (show W3.heap.size=w2.heap.size+1 by rw [hW3];simp)
 clear hW3 H2 s2
 have hh1:L[0].d.kind=1:=by have:=HD.out.head (by rw [hlm];exact hL0);rwa [List.getElem_map] at this
 refine (Rk b lo B v (.slice A L.length c) l L W3 H3.cur H3.st hlo (by have:=H3.go.size;omega) hL0 (by omega) hh1).mono ?_
 rintro e w3 ⟨⟨k,hkl,rfl,hkk⟩,hs,hc3⟩
 have H4:=Fs (H3.step hs hc3)
 clear H3 hs hc3
 go_wp2_with fail
 refine (Qn b b v l L.length w3 H4.out.cur (by omega) (by omega)).mono ?_
 rintro e w4 ⟨⟨z,rfl,hz0',hz1'⟩,hs,hzq,hc3⟩
 clear hzq
 have H5:=Fs (H4.out.step hs hc3)
 clear H4 hs hc3
 have H4:=H5
 clear H5
 have hgl:=H4.out.box.lt
 have hrl:=H4.out.res.lt
 have hgs:=H4.out.go.size
 obtain ⟨⟨q0,q1,q2,q3,q4,q5,q6,q7⟩,f0,f1,f2,f3,f4,f5,f6,f7⟩:=H4.out.box.c8
 obtain ⟨⟨r0,r1,r2,r3,r4,r5,r6,r7⟩,e0,e1,e2,e3,e4,e5,e6,e7⟩:=H4.out.res.c8
 go_wp2_with fail
 have H5:=H4.out.set 7 (.slice (some ⟨w4.heap.size,0,none⟩) 2 2)
 obtain ⟨Wf,hWf,hR,hgo,hcu,hsz,hk⟩:=H5.fin (.string nm) (.int .i64 5) (.int .i64 0) (.bool false) (.slice none 0 0) (.slice none 0 0) (.slice none 0 0) (.slice (some ⟨w4.heap.size,0,none⟩) 2 2)
 rw [←hWf]
 have hsz2:Wf.heap.size=w4.heap.size:=by rw [hsz];simp [World.setCell]
 have HB:Zo (Wf.alloc (.cells #[.int .i64 k, .int .i64 z] 3)) w4.heap.size 3 #[.int .i64 k, .int .i64 z]:=by rw [←hsz2];exact Zo.new _ _ _
 have hlt:=HB.lt
 obtain ⟨⟨t0,t1,t2,t3,t4,t5,t6,t7⟩, -⟩:=(hR.alloc (.cells #[.int .i64 k, .int .i64 z] 3)).c8
 refine bodyPost_ret (v:= .agg #[.string nm, .int .i64 5, .int .i64 0, .bool false, .slice none 0 0, .slice none 0 0, .slice none 0 0, .slice (some ⟨w4.heap.size,0,none⟩) 2 2]) (by simp only [results,results48];go_simp) rfl ?_
 refine ⟨⟨⟨nm,5,0,false, [], [], [], [(k:Int),z]⟩, .slice none 0 0, .slice none 0 0, .slice none 0 0, .slice (some ⟨w4.heap.size,0,none⟩) 2 2⟩,rfl,dr_array (by rw [hlm];exact HN.out) (by omega) (by rw [hlm];omega) (by have:=HD.out.limit (k:=k) (by rw [hlm];exact hkl) (by rw [List.getElem_map];exact hkk);exact this.1) (by omega) (by rw [hlm];omega),?_,hgo.alloc _,hcu.alloc _⟩
 exact ⟨Fu _,fun w5 h5 k5=> ⟨Sl.nil _ _ _,Sl.nil _ _ _,Sl.nil _ _ _,Rx (show Zo w5 _ 3 _ from (k5 _ (by omega) hlt).trans HB) rfl (by simp [maxLen]) hlt⟩⟩
end Go.Proofs.YteldgdelmaeokaaGreatDoor
