/- Out of MkR8, MkR9, MkR10, MkS2, MkR6, MkR7, MkR, MkD: the walks and plain laws that the claim needs. No condition but those that each theorem names. -/
import Derived.Test.YteldgdelmaeokaaGreatDoorGda
import Derived.Test.YteldgdelmaeokaaGreatDoorGa
import Derived.WalkSpells
import Derived.Deep.RegionHeld3
import Derived.Deep.DeepCutAuto
import Derived.WalkLawsBesides
import Derived.IntWalk
import Derived.Test.YteldgdelmaeokaaGreatDoorGdb
set_option linter.unusedSimpArgs false
set_option linter.unusedVariables false
set_option maxHeartbeats 4000000
set_option maxRecDepth 100000
namespace Go.Proofs.YteldgdelmaeokaaGreatDoor
open Go.Proofs.Tryz Go.RowKit
theorem l4Make_8 (b lo B:Nat) (v vD:Value) (l:List UInt8) (L:List RM) (w:World) (h:Qo b v l w) (hd:Zy lo B (fun w'=> Qz w' B vD L) w) (hlo:b < lo) (hB:B≤w.heap.size) (hD:Ud (L.map RM.d)) (hL0:0 < L.length) (h8:L.length≤8):
  Calls prog 48 #[.pointer (some ⟨b,0,none⟩), .agg #[vD], .int .i64 8] w (Pk b v l L w):=by
 obtain ⟨A,c,rfl,hc,hm, -⟩:=hd.now.open_
 unfold maxLen at hm
 have hbw:=h.lt
 have hlm:(L.map RM.d).length=L.length:=List.length_map ..
 obtain ⟨W0,hW0⟩:∃W0,W0=(w.alloc (.cells #[.slice A L.length c] 26)).alloc (.cells #[.string ⟨#[]⟩, .int .i64 0, .int .i64 0, .bool false, .slice none 0 0, .slice none 0 0, .slice none 0 0, .slice none 0 0] 50):=⟨_,rfl⟩
 have hb0:Below w.heap.size w W0:=by rw [hW0];exact ((Fv w.heap.size w).alloc (Fu _) _).alloc (by simp) _
 have hz0:w.heap.size+2≤W0.heap.size:=by rw [hW0];simp
 have D0:Zo W0 w.heap.size 26 #[.slice A L.length c]:=by rw [hW0];exact (Zo.new w _ _).alloc _
 have R0:Zo W0 (w.heap.size+1) 50 #[.string ⟨#[]⟩, .int .i64 0, .int .i64 0, .bool false, .slice none 0 0, .slice none 0 0, .slice none 0 0, .slice none 0 0]:=by
  rw [hW0]
  have:=Zo.new (w.alloc (.cells #[.slice A L.length c] 26)) 50 #[.string ⟨#[]⟩, .int .i64 0, .int .i64 0, .bool false, .slice none 0 0, .slice none 0 0, .slice none 0 0, .slice none 0 0]
  simpa using this
 have s0:W0.cell? ⟨w.heap.size,0,none⟩=some (.slice A L.length c):=D0.cell 0 rfl
 have hc0:=h.below hb0
 have hd0:=hd.below hb0
 have hg0:Qx b w W0:=Qx.of_below hb0
 have H0:=Fs (Ft hc0 (Ft hd0 (Ft hg0 (Ft D0 R0))))
 have HD:=Fs hD
 clear h hd hD hc0 hd0 hg0 D0 R0 hb0
 go_enter func48,ntmps48
 go_upto_region 1 with fail
 rw [←hW0]
 clear hW0
 go_wp2_with fail
 refine (Yo b W0.heap.size (W0.heap.size+1) v _ l Tx _ (H0.out.1.alloc _) (Xy Tx _ rfl _ _ rfl rfl (by decide)) (by omega) (by decide) (by decide)).mono ?_
 rintro e w1 ⟨⟨x,hx,rfl⟩,hs,hz,hc1⟩
 have hx4:=(Qp x hx).2.2
 have hnm:=Pe (Qp x hx).1 (Qp x hx).2.1 hx4 (n:=L.length) (by omega)
 have hg1:=(Qx.of_below ((Fv W0.heap.size W0).alloc (Fu _) (.cells #[.string ⟨#[97]⟩, .string ⟨#[105,116,101,109]⟩, .string ⟨#[98]⟩, .string ⟨#[104,101,97,100]⟩, .string ⟨#[120]⟩] 9)) (b:=b)).trans hs
 have hz1:W0.heap.size≤w1.heap.size:=hg1.size
 have H1:=Fs (Ft hc1 (Ft (H0.out.2.1.go hg1 hlo) (Ft (H0.out.2.2.1.trans hg1) (Ft (H0.out.2.2.2.1.go hg1 (by omega)) (H0.out.2.2.2.2.go hg1 (by omega))))))
 clear hs hz hc1 hg1 H0 hx
 go_wp2_with fail
 refine (Qf L.length _ (by omega)).mono ?_
 rintro e w2 ⟨rfl,bel⟩
 have hyz:(Tg (Ye L.length)).size≤1:=by rw [Yi _ (by omega)];exact Fu _
 have HN:=Fs hnm
 have hz2:=bel.size
 have H2:=Fs (Ft (H1.out.1.below bel) (Ft (H1.out.2.1.below bel) (Ft (H1.out.2.2.1.trans (Qx.of_below bel)) (Ft (H1.out.2.2.2.1.below bel) (H1.out.2.2.2.2.below bel)))))
 have s2:w2.cell? ⟨w.heap.size,0,none⟩=some (.slice A L.length c):=H2.out.2.2.2.1.cell 0 rfl
 clear hnm bel H1 s0
 generalize Tg (Ye L.length)=y at*
 have hg2:w.heap.size < w2.heap.size:=by omega
 go_wp2_with fail
 generalize x++y=nm at*
 obtain ⟨W3,hW3⟩:∃W3,W3=w2.alloc (.cells #[.string nm, .int .i64 8, .int .i64 0, .bool false, .slice none 0 0, .slice none 0 0, .slice none 0 0, .slice none 0 0] 50):=⟨_,rfl⟩
 rw [←hW3]
 have H3:Py b lo B v l (.slice A L.length c) L w w2.heap.size #[.string nm, .int .i64 8, .int .i64 0, .bool false, .slice none 0 0, .slice none 0 0, .slice none 0 0, .slice none 0 0] W3:=by
  rw [hW3]
  exact ⟨H2.out.1.alloc _,H2.out.2.1.below ((Fv _ _).alloc (Fu _) _),H2.out.2.2.1.alloc _,H2.out.2.2.2.1.alloc _,H2.out.2.2.2.2.alloc _,Zo.new w2 _ _,hbw,hlo,by omega,hB⟩
 have HZ3:=Fs (show W3.heap.size=w2.heap.size+1 by rw [hW3];simp)
 clear hW3 H2 s2
 refine (Qn b b v l L.length W3 H3.cur (by omega) (by omega)).mono ?_
 rintro e w3 ⟨⟨z,rfl,hz0',hz1'⟩,hs,hzq,hc3⟩
 clear hzq
 have H4:=Fs (H3.step hs hc3)
 clear H3 hs hc3
 have hgl:=H4.out.box.lt
 have hrl:=H4.out.res.lt
 have hgs:=H4.out.go.size
 obtain ⟨⟨q0,q1,q2,q3,q4,q5,q6,q7⟩,f0,f1,f2,f3,f4,f5,f6,f7⟩:=H4.out.box.c8
 obtain ⟨⟨r0,r1,r2,r3,r4,r5,r6,r7⟩,e0,e1,e2,e3,e4,e5,e6,e7⟩:=H4.out.res.c8
 go_wp2_with fail
 have H5:=H4.out.set 7 (.slice (some ⟨w3.heap.size,0,none⟩) 1 1)
 obtain ⟨Wf,hWf,hR,hgo,hcu,hsz,hk⟩:=H5.fin (.string nm) (.int .i64 8) (.int .i64 0) (.bool false) (.slice none 0 0) (.slice none 0 0) (.slice none 0 0) (.slice (some ⟨w3.heap.size,0,none⟩) 1 1)
 rw [←hWf]
 have hsz2:Wf.heap.size=w3.heap.size:=by rw [hsz];simp [World.setCell]
 have HB:Zo (Wf.alloc (.cells #[.int .i64 z] 3)) w3.heap.size 3 #[.int .i64 z]:=by rw [←hsz2];exact Zo.new _ _ _
 have hlt:=HB.lt
 obtain ⟨⟨t0,t1,t2,t3,t4,t5,t6,t7⟩, -⟩:=(hR.alloc (.cells #[.int .i64 z] 3)).c8
 refine bodyPost_ret (v:= .agg #[.string nm, .int .i64 8, .int .i64 0, .bool false, .slice none 0 0, .slice none 0 0, .slice none 0 0, .slice (some ⟨w3.heap.size,0,none⟩) 1 1]) (by simp only [results,results48];go_simp) rfl ?_
 refine ⟨⟨⟨nm,8,0,false, [], [], [], [z]⟩, .slice none 0 0, .slice none 0 0, .slice none 0 0, .slice (some ⟨w3.heap.size,0,none⟩) 1 1⟩,rfl,dr_opt (by rw [hlm];exact HN.out) (by simp) (by omega) (by rw [hlm];omega),?_,hgo.alloc _,hcu.alloc _⟩
 exact ⟨Fu _,fun w5 h5 k5=> ⟨Sl.nil _ _ _,Sl.nil _ _ _,Sl.nil _ _ _,Rx (show Zo w5 _ 3 _ from (k5 _ (by omega) hlt).trans HB) rfl (by simp [maxLen]) hlt⟩⟩
theorem l4Make_9 (b lo B:Nat) (v vD:Value) (l:List UInt8) (L:List RM) (w:World) (h:Qo b v l w) (hd:Zy lo B (fun w'=> Qz w' B vD L) w) (hlo:b < lo) (hB:B≤w.heap.size) (hD:Ud (L.map RM.d)) (hL0:0 < L.length) (h8:L.length≤8):
  Calls prog 48 #[.pointer (some ⟨b,0,none⟩), .agg #[vD], .int .i64 9] w (Pk b v l L w):=by
 obtain ⟨A,c,rfl,hc,hm, -⟩:=hd.now.open_
 unfold maxLen at hm
 have hbw:=h.lt
 have hlm:(L.map RM.d).length=L.length:=List.length_map ..
 obtain ⟨W0,hW0⟩:∃W0,W0=(w.alloc (.cells #[.slice A L.length c] 26)).alloc (.cells #[.string ⟨#[]⟩, .int .i64 0, .int .i64 0, .bool false, .slice none 0 0, .slice none 0 0, .slice none 0 0, .slice none 0 0] 50):=⟨_,rfl⟩
 have hb0:Below w.heap.size w W0:=by rw [hW0];exact ((Fv w.heap.size w).alloc (Fu _) _).alloc (by simp) _
 have hz0:w.heap.size+2≤W0.heap.size:=by rw [hW0];simp
 have D0:Zo W0 w.heap.size 26 #[.slice A L.length c]:=by rw [hW0];exact (Zo.new w _ _).alloc _
 have R0:Zo W0 (w.heap.size+1) 50 #[.string ⟨#[]⟩, .int .i64 0, .int .i64 0, .bool false, .slice none 0 0, .slice none 0 0, .slice none 0 0, .slice none 0 0]:=by
  rw [hW0]
  have:=Zo.new (w.alloc (.cells #[.slice A L.length c] 26)) 50 #[.string ⟨#[]⟩, .int .i64 0, .int .i64 0, .bool false, .slice none 0 0, .slice none 0 0, .slice none 0 0, .slice none 0 0]
  simpa using this
 have s0:W0.cell? ⟨w.heap.size,0,none⟩=some (.slice A L.length c):=D0.cell 0 rfl
 have hc0:=h.below hb0
 have hd0:=hd.below hb0
 have hg0:Qx b w W0:=Qx.of_below hb0
 have H0:=Fs (Ft hc0 (Ft hd0 (Ft hg0 (Ft D0 R0))))
 have HD:=Fs hD
 clear h hd hD hc0 hd0 hg0 D0 R0 hb0
 go_enter func48,ntmps48
 go_upto_region 1 with fail
 rw [←hW0]
 clear hW0
 go_wp2_with fail
 refine (Yo b W0.heap.size (W0.heap.size+1) v _ l Tx _ (H0.out.1.alloc _) (Xy Tx _ rfl _ _ rfl rfl (by decide)) (by omega) (by decide) (by decide)).mono ?_
 rintro e w1 ⟨⟨x,hx,rfl⟩,hs,hz,hc1⟩
 have hx4:=(Qp x hx).2.2
 have hnm:=Pe (Qp x hx).1 (Qp x hx).2.1 hx4 (n:=L.length) (by omega)
 have hg1:=(Qx.of_below ((Fv W0.heap.size W0).alloc (Fu _) (.cells #[.string ⟨#[97]⟩, .string ⟨#[105,116,101,109]⟩, .string ⟨#[98]⟩, .string ⟨#[104,101,97,100]⟩, .string ⟨#[120]⟩] 9)) (b:=b)).trans hs
 have hz1:W0.heap.size≤w1.heap.size:=hg1.size
 have H1:=Fs (Ft hc1 (Ft (H0.out.2.1.go hg1 hlo) (Ft (H0.out.2.2.1.trans hg1) (Ft (H0.out.2.2.2.1.go hg1 (by omega)) (H0.out.2.2.2.2.go hg1 (by omega))))))
 clear hs hz hc1 hg1 H0 hx
 go_wp2_with fail
 refine (Qf L.length _ (by omega)).mono ?_
 rintro e w2 ⟨rfl,bel⟩
 have hyz:(Tg (Ye L.length)).size≤1:=by rw [Yi _ (by omega)];exact Fu _
 have HN:=Fs hnm
 have hz2:=bel.size
 have H2:=Fs (Ft (H1.out.1.below bel) (Ft (H1.out.2.1.below bel) (Ft (H1.out.2.2.1.trans (Qx.of_below bel)) (Ft (H1.out.2.2.2.1.below bel) (H1.out.2.2.2.2.below bel)))))
 have s2:w2.cell? ⟨w.heap.size,0,none⟩=some (.slice A L.length c):=H2.out.2.2.2.1.cell 0 rfl
 clear hnm bel H1 s0
 generalize Tg (Ye L.length)=y at*
 have hg2:w.heap.size < w2.heap.size:=by omega
 go_wp2_with fail
 generalize x++y=nm at*
 obtain ⟨W3,hW3⟩:∃W3,W3=w2.alloc (.cells #[.string nm, .int .i64 9, .int .i64 0, .bool false, .slice none 0 0, .slice none 0 0, .slice none 0 0, .slice none 0 0] 50):=⟨_,rfl⟩
 rw [←hW3]
 have H3:Py b lo B v l (.slice A L.length c) L w w2.heap.size #[.string nm, .int .i64 9, .int .i64 0, .bool false, .slice none 0 0, .slice none 0 0, .slice none 0 0, .slice none 0 0] W3:=by
  rw [hW3]
  exact ⟨H2.out.1.alloc _,H2.out.2.1.below ((Fv _ _).alloc (Fu _) _),H2.out.2.2.1.alloc _,H2.out.2.2.2.1.alloc _,H2.out.2.2.2.2.alloc _,Zo.new w2 _ _,hbw,hlo,by omega,hB⟩
 have HZ3:=Fs (show W3.heap.size=w2.heap.size+1 by rw [hW3];simp)
 clear hW3 H2 s2
 refine (Qn b b v l L.length W3 H3.cur (by omega) (by omega)).mono ?_
 rintro e w3 ⟨⟨z,rfl,hz0',hz1'⟩,hs,hzq,hc3⟩
 clear hzq
 have H4:=Fs (H3.step hs hc3)
 clear H3 hs hc3
 have hgl:=H4.out.box.lt
 have hrl:=H4.out.res.lt
 have hgs:=H4.out.go.size
 obtain ⟨⟨q0,q1,q2,q3,q4,q5,q6,q7⟩,f0,f1,f2,f3,f4,f5,f6,f7⟩:=H4.out.box.c8
 obtain ⟨⟨r0,r1,r2,r3,r4,r5,r6,r7⟩,e0,e1,e2,e3,e4,e5,e6,e7⟩:=H4.out.res.c8
 go_wp2_with fail
 have H5:=H4.out.set 7 (.slice (some ⟨w3.heap.size,0,none⟩) 1 1)
 obtain ⟨Wf,hWf,hR,hgo,hcu,hsz,hk⟩:=H5.fin (.string nm) (.int .i64 9) (.int .i64 0) (.bool false) (.slice none 0 0) (.slice none 0 0) (.slice none 0 0) (.slice (some ⟨w3.heap.size,0,none⟩) 1 1)
 rw [←hWf]
 have hsz2:Wf.heap.size=w3.heap.size:=by rw [hsz];simp [World.setCell]
 have HB:Zo (Wf.alloc (.cells #[.int .i64 z] 3)) w3.heap.size 3 #[.int .i64 z]:=by rw [←hsz2];exact Zo.new _ _ _
 have hlt:=HB.lt
 obtain ⟨⟨t0,t1,t2,t3,t4,t5,t6,t7⟩, -⟩:=(hR.alloc (.cells #[.int .i64 z] 3)).c8
 refine bodyPost_ret (v:= .agg #[.string nm, .int .i64 9, .int .i64 0, .bool false, .slice none 0 0, .slice none 0 0, .slice none 0 0, .slice (some ⟨w3.heap.size,0,none⟩) 1 1]) (by simp only [results,results48];go_simp) rfl ?_
 refine ⟨⟨⟨nm,9,0,false, [], [], [], [z]⟩, .slice none 0 0, .slice none 0 0, .slice none 0 0, .slice (some ⟨w3.heap.size,0,none⟩) 1 1⟩,rfl,dr_opt (by rw [hlm];exact HN.out) (by simp) (by omega) (by rw [hlm];omega),?_,hgo.alloc _,hcu.alloc _⟩
 exact ⟨Fu _,fun w5 h5 k5=> ⟨Sl.nil _ _ _,Sl.nil _ _ _,Sl.nil _ _ _,Rx (show Zo w5 _ 3 _ from (k5 _ (by omega) hlt).trans HB) rfl (by simp [maxLen]) hlt⟩⟩
theorem l4Make_10 (b lo B:Nat) (v vD:Value) (l:List UInt8) (L:List RM) (w:World) (h:Qo b v l w) (hd:Zy lo B (fun w'=> Qz w' B vD L) w) (hlo:b < lo) (hB:B≤w.heap.size) (hD:Ud (L.map RM.d)) (hL0:0 < L.length) (h8:L.length≤8):
  Calls prog 48 #[.pointer (some ⟨b,0,none⟩), .agg #[vD], .int .i64 10] w (Pk b v l L w):=by
 obtain ⟨A,c,rfl,hc,hm, -⟩:=hd.now.open_
 unfold maxLen at hm
 have hbw:=h.lt
 have hlm:(L.map RM.d).length=L.length:=List.length_map ..
 obtain ⟨W0,hW0⟩:∃W0,W0=(w.alloc (.cells #[.slice A L.length c] 26)).alloc (.cells #[.string ⟨#[]⟩, .int .i64 0, .int .i64 0, .bool false, .slice none 0 0, .slice none 0 0, .slice none 0 0, .slice none 0 0] 50):=⟨_,rfl⟩
 have hb0:Below w.heap.size w W0:=by rw [hW0];exact ((Fv w.heap.size w).alloc (Fu _) _).alloc (by simp) _
 have hz0:w.heap.size+2≤W0.heap.size:=by rw [hW0];simp
 have D0:Zo W0 w.heap.size 26 #[.slice A L.length c]:=by rw [hW0];exact (Zo.new w _ _).alloc _
 have R0:Zo W0 (w.heap.size+1) 50 #[.string ⟨#[]⟩, .int .i64 0, .int .i64 0, .bool false, .slice none 0 0, .slice none 0 0, .slice none 0 0, .slice none 0 0]:=by
  rw [hW0]
  have:=Zo.new (w.alloc (.cells #[.slice A L.length c] 26)) 50 #[.string ⟨#[]⟩, .int .i64 0, .int .i64 0, .bool false, .slice none 0 0, .slice none 0 0, .slice none 0 0, .slice none 0 0]
  simpa using this
 have s0:W0.cell? ⟨w.heap.size,0,none⟩=some (.slice A L.length c):=D0.cell 0 rfl
 have hc0:=h.below hb0
 have hd0:=hd.below hb0
 have hg0:Qx b w W0:=Qx.of_below hb0
 have H0:=Fs (Ft hc0 (Ft hd0 (Ft hg0 (Ft D0 R0))))
 have HD:=Fs hD
 clear h hd hD hc0 hd0 hg0 D0 R0 hb0
 go_enter func48,ntmps48
 go_upto_region 1 with fail
 rw [←hW0]
 clear hW0
 go_wp2_with fail
 refine (Yo b W0.heap.size (W0.heap.size+1) v _ l Tx _ (H0.out.1.alloc _) (Xy Tx _ rfl _ _ rfl rfl (by decide)) (by omega) (by decide) (by decide)).mono ?_
 rintro e w1 ⟨⟨x,hx,rfl⟩,hs,hz,hc1⟩
 have hx4:=(Qp x hx).2.2
 have hnm:=Pe (Qp x hx).1 (Qp x hx).2.1 hx4 (n:=L.length) (by omega)
 have hg1:=(Qx.of_below ((Fv W0.heap.size W0).alloc (Fu _) (.cells #[.string ⟨#[97]⟩, .string ⟨#[105,116,101,109]⟩, .string ⟨#[98]⟩, .string ⟨#[104,101,97,100]⟩, .string ⟨#[120]⟩] 9)) (b:=b)).trans hs
 have hz1:W0.heap.size≤w1.heap.size:=hg1.size
 have H1:=Fs (Ft hc1 (Ft (H0.out.2.1.go hg1 hlo) (Ft (H0.out.2.2.1.trans hg1) (Ft (H0.out.2.2.2.1.go hg1 (by omega)) (H0.out.2.2.2.2.go hg1 (by omega))))))
 clear hs hz hc1 hg1 H0 hx
 go_wp2_with fail
 refine (Qf L.length _ (by omega)).mono ?_
 rintro e w2 ⟨rfl,bel⟩
 have hyz:(Tg (Ye L.length)).size≤1:=by rw [Yi _ (by omega)];exact Fu _
 have HN:=Fs hnm
 have hz2:=bel.size
 have H2:=Fs (Ft (H1.out.1.below bel) (Ft (H1.out.2.1.below bel) (Ft (H1.out.2.2.1.trans (Qx.of_below bel)) (Ft (H1.out.2.2.2.1.below bel) (H1.out.2.2.2.2.below bel)))))
 have s2:w2.cell? ⟨w.heap.size,0,none⟩=some (.slice A L.length c):=H2.out.2.2.2.1.cell 0 rfl
 clear hnm bel H1 s0
 generalize Tg (Ye L.length)=y at*
 have hg2:w.heap.size < w2.heap.size:=by omega
 go_wp2_with fail
 generalize x++y=nm at*
 obtain ⟨W3,hW3⟩:∃W3,W3=w2.alloc (.cells #[.string nm, .int .i64 10, .int .i64 0, .bool false, .slice none 0 0, .slice none 0 0, .slice none 0 0, .slice none 0 0] 50):=⟨_,rfl⟩
 rw [←hW3]
 have H3:Py b lo B v l (.slice A L.length c) L w w2.heap.size #[.string nm, .int .i64 10, .int .i64 0, .bool false, .slice none 0 0, .slice none 0 0, .slice none 0 0, .slice none 0 0] W3:=by
  rw [hW3]
  exact ⟨H2.out.1.alloc _,H2.out.2.1.below ((Fv _ _).alloc (Fu _) _),H2.out.2.2.1.alloc _,H2.out.2.2.2.1.alloc _,H2.out.2.2.2.2.alloc _,Zo.new w2 _ _,hbw,hlo,by omega,hB⟩
 have HZ3:=Fs (show W3.heap.size=w2.heap.size+1 by rw [hW3];simp)
 clear hW3 H2 s2
 have hI:Zy (w2.heap.size+1) (w2.heap.size+2) (fun w'=> Yt w' (w2.heap.size+2) (.slice (some ⟨w2.heap.size+1,0,none⟩) 4 4) [0,10,59,255]) (W3.alloc (.cells #[.int .i64 0, .int .i64 10, .int .i64 59, .int .i64 255] 3)):=by
  have hz3:=HZ3.out
  have hb:=Zo.new W3 3 #[.int .i64 0, .int .i64 10, .int .i64 59, .int .i64 255]
  rw [hz3] at hb
  exact ⟨by simp [hz3],fun w5 h5 k5=> Rx (show Zo w5 _ 3 _ from (k5 _ (by omega) (by omega)).trans hb) rfl (by simp [maxLen]) (by omega)⟩
 have H3':=H3.alloc (.cells #[.int .i64 0, .int .i64 10, .int .i64 59, .int .i64 255] 3)
 refine (Tv b (w2.heap.size+1) (w2.heap.size+2) (w2.heap.size+2) v _ l [0,10,59,255] _ H3'.cur hI (by omega) (by simp) (by simp)).mono ?_
 rintro e w3 ⟨⟨z,hz,rfl⟩,hs,hzq,hc3⟩
 clear hzq
 have hz2:0≤z∧z≤255∧z≠92:=by
  simp only [List.mem_cons,List.not_mem_nil,or_false] at hz
  omega
 have H4:=Fs (H3'.step hs hc3)
 have hzb:=Fs hz2
 have hz0':=hz2.1
 have hz1':=hz2.2.1
 clear H3 H3' hs hc3 hI hz
 have hgl:=H4.out.box.lt
 have hrl:=H4.out.res.lt
 have hgs:=H4.out.go.size
 obtain ⟨⟨q0,q1,q2,q3,q4,q5,q6,q7⟩,f0,f1,f2,f3,f4,f5,f6,f7⟩:=H4.out.box.c8
 obtain ⟨⟨r0,r1,r2,r3,r4,r5,r6,r7⟩,e0,e1,e2,e3,e4,e5,e6,e7⟩:=H4.out.res.c8
 go_wp2_with fail
 have H5:=H4.out.set 4 (.slice (some ⟨w3.heap.size,0,none⟩) 1 1)
 obtain ⟨Wf,hWf,hR,hgo,hcu,hsz,hk⟩:=H5.fin (.string nm) (.int .i64 10) (.int .i64 0) (.bool false) (.slice (some ⟨w3.heap.size,0,none⟩) 1 1) (.slice none 0 0) (.slice none 0 0) (.slice none 0 0)
 rw [←hWf]
 have hsz2:Wf.heap.size=w3.heap.size:=by rw [hsz];simp [World.setCell]
 have HB:Zo (Wf.alloc (.cells #[.int .u8 z] 5)) w3.heap.size 5 #[.int .u8 z]:=by rw [←hsz2];exact Zo.new _ _ _
 have hlt:=HB.lt
 obtain ⟨⟨t0,t1,t2,t3,t4,t5,t6,t7⟩, -⟩:=(hR.alloc (.cells #[.int .u8 z] 5)).c8
 refine bodyPost_ret (v:= .agg #[.string nm, .int .i64 10, .int .i64 0, .bool false, .slice (some ⟨w3.heap.size,0,none⟩) 1 1, .slice none 0 0, .slice none 0 0, .slice none 0 0]) (by simp only [results,results48];go_simp) rfl ?_
 refine ⟨⟨⟨nm,10,0,false, [UInt8.ofNat z.toNat], [], [], []⟩, .slice (some ⟨w3.heap.size,0,none⟩) 1 1, .slice none 0 0, .slice none 0 0, .slice none 0 0⟩,rfl,dr_term (by rw [hlm];exact HN.out) (by rw [hlm];exact hL0) (fun e=> by have:=congrArg UInt8.toNat e;simp at this;omega),?_,hgo.alloc _,hcu.alloc _⟩
 have hu:Uy [UInt8.ofNat z.toNat]= [Value.int .u8 z]:=by
  have e:((UInt8.ofNat z.toNat).toNat:Int)=z:=by rw [UInt8.toNat_ofNat'];omega
  simp [Uy,u8v]
  omega
 exact ⟨Fu _,fun w5 h5 k5=> ⟨by unfold Xu;rw [hu];exact Rx (show Zo w5 _ 5 _ from (k5 _ (by omega) hlt).trans HB) rfl (by simp [maxLen]) hlt,Sl.nil _ _ _,Sl.nil _ _ _,Sl.nil _ _ _⟩⟩
structure Rz (b lo B:Nat) (v:Value) (l:List UInt8) (vD:Value) (L:List RM) (w:World) (g:Nat) (nm:ByteArray) (K:Int) (base:Nat) (vn vt vk:Value) (names:List ByteArray) (tags kids:List Int) (W:World):Prop where
 ms:Py b lo B v l vD L w g #[.string nm, .int .i64 K, .int .i64 0, .bool false, .slice none 0 0,vn,vt,vk] W
 rn:W.ownsRow base 9 1 vn names.length (names.map .string)
 rt:W.ownsRow base 3 1 vt tags.length (tags.map (.int .i64))
 rk:W.ownsRow base 3 1 vk kids.length (kids.map (.int .i64))
 nk:∀q,vn.ownBlock=some q→vk.ownBlock≠some q
 tk:∀q,vt.ownBlock=some q→vk.ownBlock≠some q
 nt:∀q,vn.ownBlock=some q→vt.ownBlock≠some q
 gb:g < base
 bz:base≤W.heap.size
section
variable {b lo B g base:Nat} {v vD vn vt vk:Value} {l:List UInt8} {L:List RM} {w W W':World} {nm:ByteArray} {K:Int} {names:List ByteArray} {tags kids:List Int}
theorem Rz.step (h:Rz b lo B v l vD L w g nm K base vn vt vk names tags kids W) (hs:Qx b W W') (hc:Qo b v l W'):Rz b lo B v l vD L w g nm K base vn vt vk names tags kids W':=
 have hb:b < base:=by have:=h.ms.hb;have:=h.ms.hg;have:=h.gb;omega
 ⟨h.ms.step hs hc,Me h.rn hs hb,Me h.rt hs hb,Me h.rk hs hb,h.nk,h.tk,h.nt,h.gb,Nat.le_trans h.bz hs.size⟩
theorem Rz.below (h:Rz b lo B v l vD L w g nm K base vn vt vk names tags kids W) (hb:Below W.heap.size W W'):Rz b lo B v l vD L w g nm K base vn vt vk names tags kids W':=h.step (Qx.of_below hb) (h.ms.cur.below hb)
theorem Rz.alloc (h:Rz b lo B v l vD L w g nm K base vn vt vk names tags kids W) (o:Obj):Rz b lo B v l vD L w g nm K base vn vt vk names tags kids (W.alloc o):=h.below ((Fv _ _).alloc (Fu _) o)
theorem Rz.drew (h:Rz b lo B v l vD L w g nm K base vn vt vk names tags kids W):Rz b lo B v l vD L w g nm K base vn vt vk names tags kids W.drew:=h.step ⟨rfl,rfl,rfl,Fu _,fun _ _ _=> rfl⟩ h.ms.cur.drew
theorem Py.rowK {cs:Array Value} (h:Py b lo B v l vD L w g cs W) {row:Option Nat} (hg:W.grownBy W' row) (hr:∀k,row=some k→g < k):Py b lo B v l vD L w g cs W':=
 have h1:=h.hb
 have h2:=h.hg
 have h3:=h.hB
 ⟨h.cur.rowG hg fun k e=> by have:=hr k e;omega,h.st.row hg fun k e=> .inr (by have:=hr k e;omega),h.go.rowG hg fun k e=> by have:=hr k e;omega,h.dbox.row hg (fun e=> by have:=hr _ e;omega),h.res.row hg (fun e=> by have:=hr _ e;omega),h.box.row hg (fun e=> by have:=hr _ e;omega),h.hb,h.hlo,h.hg,h.hB⟩
theorem Tl {W W':World} {base E size n:Nat} {u u':Value} {xs:List Value} (h:W.ownsRow base E size u n xs) (hg:W.grownBy W' u'.ownBlock) (hn:∀q,u.ownBlock=some q→u'.ownBlock≠some q):W'.ownsRow base E size u n xs:=
 Ql h fun q hq=> hg.block q (h.lt q hq).2 (fun e=> hn q hq e.symm)
theorem Vy {W:World} {base E size n:Nat} {u:Value} {xs:List Value} (h:W.ownsRow base E size u n xs) (hg:g < base) {j:Nat} (x:Value):(W.setCell ⟨g,j,none⟩ x).ownsRow base E size u n xs:=own_set h hg x
theorem Rz.appN {vn':Value} {s:ByteArray} (h:Rz b lo B v l vD L w g nm K base vn vt vk names tags kids W) (own2:W'.ownsRow base 9 1 vn' (names.length+1) (names.map .string++ [.string s])) (hg:W.grownBy W' vn.ownBlock) (hv:vn'.ownBlock=vn.ownBlock∨vn'.ownBlock=some W.heap.size):
  Py b lo B v l vD L w g #[.string nm, .int .i64 K, .int .i64 0, .bool false, .slice none 0 0,vn,vt,vk] W'∧Rz b lo B v l vD L w g nm K base vn' vt vk (names++ [s]) tags kids (W'.setCell ⟨g,5,none⟩ vn'):=by
 have hgb:=h.gb
 have hm:=h.ms.rowK hg fun k e=> by have:=(h.rn.lt k e).1;omega
 refine ⟨hm,by simpa using hm.set 5 vn',Vy (by simpa using own2) hgb _,Vy (Tl h.rt hg fun q e e2=> h.nt q e2 e) hgb _,Vy (Tl h.rk hg fun q e e2=> h.nk q e2 e) hgb _,fun q e=> ?_,h.tk,fun q e=> ?_,hgb,by have:=h.bz;have:=hg.size;simpa using Nat.le_trans h.bz hg.size⟩
 ·rcases hv with e2|e2
  ·exact h.nk q (e2 ▸ e)
  ·rw [e2] at e;cases e;exact fun e3=> absurd (h.rk.lt _ e3).2 (by omega)
 ·rcases hv with e2|e2
  ·exact h.nt q (e2 ▸ e)
  ·rw [e2] at e;cases e;exact fun e3=> absurd (h.rt.lt _ e3).2 (by omega)
theorem Rz.appT {vt':Value} {s:Int} (h:Rz b lo B v l vD L w g nm K base vn vt vk names tags kids W) (own2:W'.ownsRow base 3 1 vt' (tags.length+1) (tags.map (.int .i64)++ [.int .i64 s])) (hg:W.grownBy W' vt.ownBlock) (hv:vt'.ownBlock=vt.ownBlock∨vt'.ownBlock=some W.heap.size):
  Py b lo B v l vD L w g #[.string nm, .int .i64 K, .int .i64 0, .bool false, .slice none 0 0,vn,vt,vk] W'∧Rz b lo B v l vD L w g nm K base vn vt' vk names (tags++ [s]) kids (W'.setCell ⟨g,6,none⟩ vt'):=by
 have hgb:=h.gb
 have hm:=h.ms.rowK hg fun k e=> by have:=(h.rt.lt k e).1;omega
 refine ⟨hm,by simpa using hm.set 6 vt',Vy (Tl h.rn hg fun q e e2=> h.nt q e e2) hgb _,Vy (by simpa using own2) hgb _,Vy (Tl h.rk hg fun q e e2=> h.tk q e2 e) hgb _,h.nk,fun q e=> ?_,fun q e e3=> ?_,hgb,by simpa using Nat.le_trans h.bz hg.size⟩
 ·rcases hv with e2|e2
  ·exact h.tk q (e2 ▸ e)
  ·rw [e2] at e;cases e;exact fun e3=> absurd (h.rk.lt _ e3).2 (by omega)
 ·rcases hv with e2|e2
  ·exact h.nt q e (e2 ▸ e3)
  ·rw [e2] at e3;cases e3;exact absurd (h.rn.lt _ e).2 (by omega)
theorem Rz.appK {vk':Value} {s:Int} (h:Rz b lo B v l vD L w g nm K base vn vt vk names tags kids W) (own2:W'.ownsRow base 3 1 vk' (kids.length+1) (kids.map (.int .i64)++ [.int .i64 s])) (hg:W.grownBy W' vk.ownBlock) (hv:vk'.ownBlock=vk.ownBlock∨vk'.ownBlock=some W.heap.size):
  Py b lo B v l vD L w g #[.string nm, .int .i64 K, .int .i64 0, .bool false, .slice none 0 0,vn,vt,vk] W'∧Rz b lo B v l vD L w g nm K base vn vt vk' names tags (kids++ [s]) (W'.setCell ⟨g,7,none⟩ vk'):=by
 have hgb:=h.gb
 have hm:=h.ms.rowK hg fun k e=> by have:=(h.rk.lt k e).1;omega
 refine ⟨hm,by simpa using hm.set 7 vk',Vy (Tl h.rn hg fun q e e2=> h.nk q e e2) hgb _,Vy (Tl h.rt hg fun q e e2=> h.tk q e e2) hgb _,Vy (by simpa using own2) hgb _,fun q e e3=> ?_,fun q e e3=> ?_,h.nt,hgb,by simpa using Nat.le_trans h.bz hg.size⟩
 ·rcases hv with e2|e2
  ·exact h.nk q e (e2 ▸ e3)
  ·rw [e2] at e3;cases e3;exact absurd (h.rn.lt _ e).2 (by omega)
 ·rcases hv with e2|e2
  ·exact h.tk q e (e2 ▸ e3)
  ·rw [e2] at e3;cases e3;exact absurd (h.rt.lt _ e).2 (by omega)
theorem Rz.rd (h:Rz b lo B v l vD L w g nm K base vn vt vk names tags kids W) {Wf:World} (hz:Wf.heap.size=W.heap.size) (hk:∀k,k≠w.heap.size+1→Wf.heap[k]?=W.heap[k]?) {d:Zi} (hd:d=⟨nm,K,0,false, [],names,tags,kids⟩):
  Zy w.heap.size Wf.heap.size (fun w''=> (⟨d, .slice none 0 0,vn,vt,vk⟩:RM).rd w'' Wf.heap.size) Wf:=by
 subst hd
 have h1:=h.gb
 have h2:=h.ms.hg
 have hkeep:∀{E n:Nat} {u:Value} {xs:List Value},W.ownsRow base E 1 u n xs→Zy w.heap.size Wf.heap.size (fun w'=> Sl w' Wf.heap.size 1 u n xs) Wf:=fun hr=>
  Le (Ql hr fun q hq=> hk q (by have:=(hr.lt q hq).1;omega)) (by omega) (fun q hq=> by rw [hz];exact (hr.lt q hq).2) (Fu _)
 exact (((hkeep h.rn).and (hkeep h.rt)).and (hkeep h.rk)).imp fun w2 h2=> ⟨Sl.nil _ _ _,h2.1.1,h2.1.2,h2.2⟩
end
theorem l4Make_6 (b lo B:Nat) (v vD:Value) (l:List UInt8) (L:List RM) (w:World) (h:Qo b v l w) (hd:Zy lo B (fun w'=> Qz w' B vD L) w) (hlo:b < lo) (hB:B≤w.heap.size) (hD:Ud (L.map RM.d)) (hL0:0 < L.length) (h8:L.length≤8):
  Calls prog 48 #[.pointer (some ⟨b,0,none⟩), .agg #[vD], .int .i64 6] w (Pk b v l L w):=by
 obtain ⟨A,c,rfl,hc,hm, -⟩:=hd.now.open_
 unfold maxLen at hm
 have hbw:=h.lt
 have hlm:(L.map RM.d).length=L.length:=List.length_map ..
 obtain ⟨W0,hW0⟩:∃W0,W0=(w.alloc (.cells #[.slice A L.length c] 26)).alloc (.cells #[.string ⟨#[]⟩, .int .i64 0, .int .i64 0, .bool false, .slice none 0 0, .slice none 0 0, .slice none 0 0, .slice none 0 0] 50):=⟨_,rfl⟩
 have hb0:Below w.heap.size w W0:=by rw [hW0];exact ((Fv w.heap.size w).alloc (Fu _) _).alloc (by simp) _
 have hz0:w.heap.size+2≤W0.heap.size:=by rw [hW0];simp
 have D0:Zo W0 w.heap.size 26 #[.slice A L.length c]:=by rw [hW0];exact (Zo.new w _ _).alloc _
 have R0:Zo W0 (w.heap.size+1) 50 #[.string ⟨#[]⟩, .int .i64 0, .int .i64 0, .bool false, .slice none 0 0, .slice none 0 0, .slice none 0 0, .slice none 0 0]:=by
  rw [hW0]
  have:=Zo.new (w.alloc (.cells #[.slice A L.length c] 26)) 50 #[.string ⟨#[]⟩, .int .i64 0, .int .i64 0, .bool false, .slice none 0 0, .slice none 0 0, .slice none 0 0, .slice none 0 0]
  simpa using this
 have s0:W0.cell? ⟨w.heap.size,0,none⟩=some (.slice A L.length c):=D0.cell 0 rfl
 have hc0:=h.below hb0
 have hd0:=hd.below hb0
 have hg0:Qx b w W0:=Qx.of_below hb0
 have H0:=Fs (Ft hc0 (Ft hd0 (Ft hg0 (Ft D0 R0))))
 have HD:=Fs hD
 clear h hd hD hc0 hd0 hg0 D0 R0 hb0
 go_enter func48,ntmps48
 go_upto_region 1 with fail
 rw [←hW0]
 clear hW0
 go_wp2_with fail
 refine (Yo b W0.heap.size (W0.heap.size+1) v _ l Tx _ (H0.out.1.alloc _) (Xy Tx _ rfl _ _ rfl rfl (by decide)) (by omega) (by decide) (by decide)).mono ?_
 rintro e w1 ⟨⟨x,hx,rfl⟩,hs,hz,hc1⟩
 have hx4:=(Qp x hx).2.2
 have hnm:=Pe (Qp x hx).1 (Qp x hx).2.1 hx4 (n:=L.length) (by omega)
 have hg1:=(Qx.of_below ((Fv W0.heap.size W0).alloc (Fu _) (.cells #[.string ⟨#[97]⟩, .string ⟨#[105,116,101,109]⟩, .string ⟨#[98]⟩, .string ⟨#[104,101,97,100]⟩, .string ⟨#[120]⟩] 9)) (b:=b)).trans hs
 have hz1:W0.heap.size≤w1.heap.size:=hg1.size
 have H1:=Fs (Ft hc1 (Ft (H0.out.2.1.go hg1 hlo) (Ft (H0.out.2.2.1.trans hg1) (Ft (H0.out.2.2.2.1.go hg1 (by omega)) (H0.out.2.2.2.2.go hg1 (by omega))))))
 clear hs hz hc1 hg1 H0 hx
 go_wp2_with fail
 refine (Qf L.length _ (by omega)).mono ?_
 rintro e w2 ⟨rfl,bel⟩
 have hyz:(Tg (Ye L.length)).size≤1:=by rw [Yi _ (by omega)];exact Fu _
 have HN:=Fs hnm
 have hz2:=bel.size
 have H2:=Fs (Ft (H1.out.1.below bel) (Ft (H1.out.2.1.below bel) (Ft (H1.out.2.2.1.trans (Qx.of_below bel)) (Ft (H1.out.2.2.2.1.below bel) (H1.out.2.2.2.2.below bel)))))
 have s2:w2.cell? ⟨w.heap.size,0,none⟩=some (.slice A L.length c):=H2.out.2.2.2.1.cell 0 rfl
 clear hnm bel H1 s0
 generalize Tg (Ye L.length)=y at*
 have hg2:w.heap.size < w2.heap.size:=by omega
 go_wp2_with fail
 generalize x++y=nm at*
 obtain ⟨W3,hW3⟩:∃W3,W3=w2.alloc (.cells #[.string nm, .int .i64 6, .int .i64 0, .bool false, .slice none 0 0, .slice none 0 0, .slice none 0 0, .slice none 0 0] 50):=⟨_,rfl⟩
 rw [←hW3]
 have H3:Py b lo B v l (.slice A L.length c) L w w2.heap.size #[.string nm, .int .i64 6, .int .i64 0, .bool false, .slice none 0 0, .slice none 0 0, .slice none 0 0, .slice none 0 0] W3:=by
  rw [hW3]
  exact ⟨H2.out.1.alloc _,H2.out.2.1.below ((Fv _ _).alloc (Fu _) _),H2.out.2.2.1.alloc _,H2.out.2.2.2.1.alloc _,H2.out.2.2.2.2.alloc _,Zo.new w2 _ _,hbw,hlo,by omega,hB⟩
 have HZ3:=Fs (show W3.heap.size=w2.heap.size+1 by rw [hW3];simp)
 clear hW3 H2 s2
 have hh0:=w2.heap.size
 refine (Qn b b v l 3 W3 H3.cur (by omega) (by omega)).mono ?_
 rintro e w3 ⟨⟨z,rfl,hz0',hz1'⟩,hs,hzq,hc3⟩
 clear hzq
 obtain ⟨m1,rfl⟩:=Int.eq_ofNat_of_zero_le hz0'
 obtain ⟨m,hm⟩:∃m:Nat,m=1+m1:=⟨_,rfl⟩
 have HMm:=Fs hm
 have hm3:m≤3:=by omega
 have hm1:1≤m:=by omega
 obtain ⟨i0,hi,hz0,hz1,hz2⟩:=info_parts info_i64
 obtain ⟨i1,gi,gz0,gz1,gz2⟩:=info_parts info_str
 have HR:=Fs (show Rz b lo B v l (.slice A L.length c) L w w2.heap.size nm 6 (w2.heap.size+1) (.slice none 0 0) (.slice none 0 0) (.slice none 0 0) [] [] [] w3 from
  ⟨H3.step hs hc3,World.ownsRow_nil _ _ _ _,World.ownsRow_nil _ _ _ _,World.ownsRow_nil _ _ _ _,(fun _ e=> by cases e),(fun _ e=> by cases e),(fun _ e=> by cases e),Nat.lt_succ_self _,by have:=H3.box.lt;have:=hs.size;omega⟩)
 clear H3 hs hc3 hz0'
 clear hm
 go_wp2
 go_loopw [9] (fun i wr=> ∃(names:List ByteArray) (kids:List Int) (vn vk:Value),i= .int .i64 ((m - names.length:Nat):Int)∧SeqI L.length m names kids∧Rz b lo B v l (.slice A L.length c) L w w2.heap.size nm 6 (w2.heap.size+1) vn (.slice none 0 0) vk names [] kids wr) (fun i _=> (intOf i).natAbs)
 case atStart=> exact ⟨[], [],_,_,by congr 1;have:=HMm.out;simp only [List.length_nil];omega,SeqI.nil hm3,HR.out⟩
 case round=>
  obtain ⟨names,kids,vn,vk,rfl,hseq,hr⟩:=hrel
  have HQ:=Fs hseq
  have hle:=hseq.le
  have hkl:=hseq.len
  have HX:=Fs hr
  clear hseq hr HR
  by_cases hlt:names.length < m
  ·obtain ⟨i,hi2⟩:∃i:Nat,i=m - names.length:=⟨_,rfl⟩
   rw [←hi2]
   have hipos:(0:Int) < i:=by omega
   have hi4:i≤3:=by omega
   have HI:=Fs hi2
   have hnl:names.length≤3:=by omega
   have hkl3:kids.length≤3:=by omega
   clear hi2 hkl
   have HXD:=Fs HX.out.drew
   go_wp2_with fail
   refine Qr (S:=(fun w9=> w9.cell? ⟨w2.heap.size,5,none⟩=some vn)) 11 (by kernel_rfl) ?_ (fun hHeld=> ?_)
   ·(try dsimp only);exact HXD.out.ms.box.cell 5 rfl
   refine Zt 0 (some 77) hHeld _ ?_;try go_frame
   refine Zt 1 (some 78) hHeld _ ?_;try go_frame
   refine Zt 2 (some 79) hHeld _ ?_;try go_frame
   refine Zt 5 (some 82) hHeld _ ?_;try go_frame
   refine Qw 3 (fun K hK=> ?_)
   (try go_simp)
   obtain ⟨X1,hX1⟩:∃V,V=(wr.alloc (.cells #[.string ⟨#[112]⟩, .string ⟨#[113]⟩, .string ⟨#[114]⟩] 9)).drew:=⟨_,rfl⟩;rw [←hX1];have hlit:=Fs (show Gx xsPq wr.heap.size (wr.heap.size+1) X1 (.slice (some ⟨wr.heap.size,0,none⟩) 3 3) by rw [hX1];exact Xy xsPq _ rfl _ _ rfl rfl (by decide));have HZ:=Fs (by rw [hX1];exact (HX.out.alloc _).drew:Rz b lo B v l (.slice A L.length c) L w w2.heap.size nm 6 (w2.heap.size+1) vn (.slice none 0 0) vk names [] kids X1);clear hX1
   refine hK.out _ _ ?_ (fun hHeld=> ?_)
   ·(try dsimp only);first|exact hk5|exact HZ.out.ms.box.cell 5 rfl
   clear hK K
   try go_frame
   refine Qw 4 (fun K hK=> ?_)
   go_simp
   refine (Yo b wr.heap.size (wr.heap.size+1) v _ l xsPq _ HZ.out.ms.cur hlit.out (by have:=HX.out.bz;omega) (by decide) (by decide)).mono ?_;rintro e X2 ⟨⟨y1,hy1,rfl⟩,hs2,hzq,hc2⟩;clear hzq;have HZ:=Fs (HZ.out.step hs2 hc2);clear hs2 hc2 hlit
   (try go_wp2_with fail)
   refine hK.out _ _ ?_ (fun hHeld=> ?_)
   ·(try dsimp only);first|exact hk5|exact HZ.out.ms.box.cell 5 rfl
   clear hK K
   try go_frame
   refine Qw 6 (fun K hK=> ?_)
   go_simp
   refine (Qf i _ (by omega)).mono ?_;rintro e X3 ⟨rfl,bel⟩;have HZ:=Fs (HZ.out.below bel);clear bel;have hNm:=Fs (Pe (Ov y1 hy1).1 (Ov y1 hy1).2.1 (by have:=(Ov y1 hy1).2.2;omega) (show i < 10 by omega));have hy1s:=(Ov y1 hy1).2.2;have hfz:(Tg (Ye i)).size≤1:=(by rw [Yi _ (by omega)];exact Fu _);clear hy1;generalize Tg (Ye i)=y2 at*;have hss:¬9223372036854775807 < y1.size+y2.size:=(by omega)
   (try go_wp2_with fail)
   refine hK.out _ _ ?_ (fun hHeld=> ?_)
   ·(try dsimp only);first|exact hk5|exact HZ.out.ms.box.cell 5 rfl
   clear hK K
   try go_frame
   refine Zt 7 (some 84) hHeld _ ?_;try go_frame
   refine Qw 8 (fun K hK=> ?_)
   (try go_simp)
   obtain ⟨X5,hX5⟩:∃V,V=X3.alloc (.cells #[.string (y1++y2)] 9):=⟨_,rfl⟩;rw [←hX5];have hsl:=Fs (show Sl X5 (X3.heap.size+1) 1 (.slice (some ⟨X3.heap.size,0,none⟩) 1 1) 1 [.string (y1++y2)] by rw [hX5];exact Pq rfl);have HZ:=Fs (by rw [hX5];exact HZ.out.alloc _:Rz b lo B v l (.slice A L.length c) L w w2.heap.size nm 6 (w2.heap.size+1) vn (.slice none 0 0) vk names [] kids X5);clear hX5
   refine hK.out _ _ ?_ (fun hHeld=> ?_)
   ·(try dsimp only);first|exact hk5|exact HZ.out.ms.box.cell 5 rfl
   clear hK K
   try go_frame
   refine Qw 9 (fun K hK=> ?_)
   refine Je _ (.tmp 78) (.tmp 85) 47 rfl (w2.heap.size+1) 9 i1 (.string ⟨#[]⟩) 1 16 underlying47 gi gz0 gz1 gz2 rfl (by decide) _ names.length _ rfl (by exact HZ.out.rn) _ 1 _ [.string (y1++y2)] rfl (by exact hsl.out) (by simp [Value.oneCell']) (by omega) (by unfold maxLen;omega) HZ.out.bz ?_;intro vn2 X6 own2 hg2 hv2;obtain ⟨An,cn,rfl⟩:=Zq own2;have HM:=Fs (HZ.out.appN own2 hg2 hv2);clear own2 hg2 hv2;have hk5:X6.cell? ⟨w2.heap.size,5,none⟩=some vn:=HM.out.1.box.cell 5 rfl;have hf5:=HM.out.1.box.frozen 5
   refine hK.out _ _ ?_ (fun hHeld=> ?_)
   ·(try dsimp only);first|exact hk5|exact HZ.out.ms.box.cell 5 rfl
   clear hK K
   try go_frame
   refine Zt 10 (some 87) hHeld _ ?_;try go_frame
   refine Uz (fun K hK=> ?_)
   (try go_simp)
   refine hK.out _ _ ?_
   clear hK K
   try go_frame
   refine Js (by kernel_rfl) ?_ _
   obtain ⟨X7,hX7⟩:∃V,V=X6.setCell ⟨w2.heap.size,5,none⟩ (.slice An (names.length+1) cn):=⟨_,rfl⟩
   rw [←hX7]
   have HY:=Fs (by rw [hX7];exact HM.out.2.drew:Rz b lo B v l (.slice A L.length c) L w w2.heap.size nm 6 (w2.heap.size+1) (.slice An (names.length+1) cn) (.slice none 0 0) vk (names++ [y1++y2]) [] kids X7.drew)
   clear hX7 HM hk5 hf5 HZ HX HXD
   go_wp2_with fail
   refine Qr (S:=(fun w9=> w9.cell? ⟨w2.heap.size,7,none⟩=some vk)) 8 (by kernel_rfl) ?_ (fun hHeld=> ?_)
   ·(try dsimp only);exact HY.out.ms.box.cell 7 rfl
   refine Zt 0 (some 88) hHeld _ ?_;try go_frame
   refine Zt 1 (some 89) hHeld _ ?_;try go_frame
   refine Zt 2 (some 90) hHeld _ ?_;try go_frame
   refine Zt 3 (some 91) hHeld _ ?_;try go_frame
   refine Qw 4 (fun K hK=> ?_)
   go_simp
   refine (Qn b b v l L.length _ HY.out.ms.cur (by omega) (by omega)).mono ?_;rintro e X4 ⟨⟨q,rfl,hq0,hq1⟩,hs4,hzq,hc4⟩;clear hzq;have HZ:=Fs (HY.out.step hs4 hc4);clear hs4 hc4
   (try go_wp2_with fail)
   refine hK.out _ _ ?_ (fun hHeld=> ?_)
   ·(try dsimp only);first|exact hk7|exact HZ.out.ms.box.cell 7 rfl
   clear hK K
   try go_frame
   refine Qw 5 (fun K hK=> ?_)
   (try go_simp)
   obtain ⟨X5,hX5⟩:∃V,V=X4.alloc (.cells #[.int .i64 q] 3):=⟨_,rfl⟩;rw [←hX5];have hsl:=Fs (show Sl X5 (X4.heap.size+1) 1 (.slice (some ⟨X4.heap.size,0,none⟩) 1 1) 1 [.int .i64 q] by rw [hX5];exact Pq rfl);have HZ:=Fs (by rw [hX5];exact HZ.out.alloc _:Rz b lo B v l (.slice A L.length c) L w w2.heap.size nm 6 (w2.heap.size+1) (.slice An (names.length+1) cn) (.slice none 0 0) vk (names++ [y1++y2]) [] kids X5);clear hX5
   refine hK.out _ _ ?_ (fun hHeld=> ?_)
   ·(try dsimp only);first|exact hk7|exact HZ.out.ms.box.cell 7 rfl
   clear hK K
   try go_frame
   refine Qw 6 (fun K hK=> ?_)
   refine Je _ (.tmp 89) (.tmp 93) 48 rfl (w2.heap.size+1) 3 i0 (.int .i64 0) 1 8 underlying48 hi hz0 hz1 hz2 rfl (by decide) _ kids.length _ rfl (by exact HZ.out.rk) _ 1 _ [.int .i64 q] rfl (by exact hsl.out) (by simp [Value.oneCell']) (by omega) (by unfold maxLen;omega) HZ.out.bz ?_;intro vk2 X8 own2 hg2 hv2;obtain ⟨Ak,ck,rfl⟩:=Zq own2;have HM:=Fs (HZ.out.appK own2 hg2 hv2);clear own2 hg2 hv2;have hk7:=HM.out.1.box.cell 7 rfl;have hf7:=HM.out.1.box.frozen 7
   refine hK.out _ _ ?_ (fun hHeld=> ?_)
   ·(try dsimp only);first|exact hk7|exact HZ.out.ms.box.cell 7 rfl
   clear hK K
   try go_frame
   refine Zt 7 (some 95) hHeld _ ?_;try go_frame
   refine Uz (fun K hK=> ?_)
   (try go_simp)
   refine hK.out _ _ ?_
   clear hK K
   try go_frame
   refine Js (by kernel_rfl) ?_ _
   obtain ⟨X9,hX9⟩:∃V,V=X8.setCell ⟨w2.heap.size,7,none⟩ (.slice Ak (kids.length+1) ck):=⟨_,rfl⟩
   rw [←hX9]
   have HY:=Fs (by rw [hX9];exact HM.out.2:Rz b lo B v l (.slice A L.length c) L w w2.heap.size nm 6 (w2.heap.size+1) (.slice An (names.length+1) cn) (.slice none 0 0) (.slice Ak (kids.length+1) ck) (names++ [y1++y2]) [] (kids++ [q]) X9)
   clear hX9 HM hk7 hf7 HZ
   go_wp2
   go_roundw
   case rel=> exact ⟨_,_,_,_,by congr 1;have:=HI.out;simp only [List.length_append,List.length_cons,List.length_nil];omega,HQ.out.snoc hlt (by rw [←HI.out];exact hNm.out) hq0 hq1,HY.out⟩
   case measure=> simp [intOf];omega
  ·have hml:m - names.length=0:=by omega
   have hmn:names.length=m:=by omega
   have HMN:=Fs hmn
   rw [hml]
   clear hml hmn hle hlt hkl
   obtain ⟨Av,cv,rfl⟩:=Zq HX.out.rn
   obtain ⟨Au,cu,rfl⟩:=Zq HX.out.rk
   obtain ⟨⟨q0,q1,q2,q3,q4,q5,q6,q7⟩,f0,f1,f2,f3,f4,f5,f6,f7⟩:=HX.out.ms.box.c8
   obtain ⟨⟨r0,r1,r2,r3,r4,r5,r6,r7⟩,e0,e1,e2,e3,e4,e5,e6,e7⟩:=HX.out.ms.res.c8
   go_wp2
   have H5:=HX.out.ms
   obtain ⟨Wf,hWf,hR,hgo,hcu,hsz,hk⟩:=H5.fin (.string nm) (.int .i64 6) (.int .i64 0) (.bool false) (.slice none 0 0) (.slice Av names.length cv) (.slice none 0 0) (.slice Au kids.length cu)
   rw [←hWf]
   obtain ⟨⟨t0,t1,t2,t3,t4,t5,t6,t7⟩, -⟩:=hR.c8
   refine bodyPost_ret (v:= .agg #[.string nm, .int .i64 6, .int .i64 0, .bool false, .slice none 0 0, .slice Av names.length cv, .slice none 0 0, .slice Au kids.length cu]) (by simp [results,results48,go_sem,t0,t1,t2,t3,t4,t5,t6,t7]) rfl ?_
   refine ⟨⟨⟨nm,6,0,false, [],names, [],kids⟩, .slice none 0 0, .slice Av names.length cv, .slice none 0 0, .slice Au kids.length cu⟩,rfl,dr_seq (by rw [hlm];exact HN.out) (by rw [hlm];exact HQ.out) HMN.out hm1 (by rw [hlm];exact hL0),HX.out.rd hsz hk rfl,hgo,hcu⟩
theorem l4Make_7 (b lo B:Nat) (v vD:Value) (l:List UInt8) (L:List RM) (w:World) (h:Qo b v l w) (hd:Zy lo B (fun w'=> Qz w' B vD L) w) (hlo:b < lo) (hB:B≤w.heap.size) (hD:Ud (L.map RM.d)) (hL0:0 < L.length) (h8:L.length≤8):
  Calls prog 48 #[.pointer (some ⟨b,0,none⟩), .agg #[vD], .int .i64 7] w (Pk b v l L w):=by
 obtain ⟨A,c,rfl,hc,hm, -⟩:=hd.now.open_
 unfold maxLen at hm
 have hbw:=h.lt
 have hlm:(L.map RM.d).length=L.length:=List.length_map ..
 obtain ⟨W0,hW0⟩:∃W0,W0=(w.alloc (.cells #[.slice A L.length c] 26)).alloc (.cells #[.string ⟨#[]⟩, .int .i64 0, .int .i64 0, .bool false, .slice none 0 0, .slice none 0 0, .slice none 0 0, .slice none 0 0] 50):=⟨_,rfl⟩
 have hb0:Below w.heap.size w W0:=by rw [hW0];exact ((Fv w.heap.size w).alloc (Fu _) _).alloc (by simp) _
 have hz0:w.heap.size+2≤W0.heap.size:=by rw [hW0];simp
 have D0:Zo W0 w.heap.size 26 #[.slice A L.length c]:=by rw [hW0];exact (Zo.new w _ _).alloc _
 have R0:Zo W0 (w.heap.size+1) 50 #[.string ⟨#[]⟩, .int .i64 0, .int .i64 0, .bool false, .slice none 0 0, .slice none 0 0, .slice none 0 0, .slice none 0 0]:=by
  rw [hW0]
  have:=Zo.new (w.alloc (.cells #[.slice A L.length c] 26)) 50 #[.string ⟨#[]⟩, .int .i64 0, .int .i64 0, .bool false, .slice none 0 0, .slice none 0 0, .slice none 0 0, .slice none 0 0]
  simpa using this
 have s0:W0.cell? ⟨w.heap.size,0,none⟩=some (.slice A L.length c):=D0.cell 0 rfl
 have hc0:=h.below hb0
 have hd0:=hd.below hb0
 have hg0:Qx b w W0:=Qx.of_below hb0
 have H0:=Fs (Ft hc0 (Ft hd0 (Ft hg0 (Ft D0 R0))))
 have HD:=Fs hD
 clear h hd hD hc0 hd0 hg0 D0 R0 hb0
 go_enter func48,ntmps48
 go_upto_region 1 with fail
 rw [←hW0]
 clear hW0
 go_wp2_with fail
 refine (Yo b W0.heap.size (W0.heap.size+1) v _ l Tx _ (H0.out.1.alloc _) (Xy Tx _ rfl _ _ rfl rfl (by decide)) (by omega) (by decide) (by decide)).mono ?_
 rintro e w1 ⟨⟨x,hx,rfl⟩,hs,hz,hc1⟩
 have hx4:=(Qp x hx).2.2
 have hnm:=Pe (Qp x hx).1 (Qp x hx).2.1 hx4 (n:=L.length) (by omega)
 have hg1:=(Qx.of_below ((Fv W0.heap.size W0).alloc (Fu _) (.cells #[.string ⟨#[97]⟩, .string ⟨#[105,116,101,109]⟩, .string ⟨#[98]⟩, .string ⟨#[104,101,97,100]⟩, .string ⟨#[120]⟩] 9)) (b:=b)).trans hs
 have hz1:W0.heap.size≤w1.heap.size:=hg1.size
 have H1:=Fs (Ft hc1 (Ft (H0.out.2.1.go hg1 hlo) (Ft (H0.out.2.2.1.trans hg1) (Ft (H0.out.2.2.2.1.go hg1 (by omega)) (H0.out.2.2.2.2.go hg1 (by omega))))))
 clear hs hz hc1 hg1 H0 hx
 go_wp2_with fail
 refine (Qf L.length _ (by omega)).mono ?_
 rintro e w2 ⟨rfl,bel⟩
 have hyz:(Tg (Ye L.length)).size≤1:=by rw [Yi _ (by omega)];exact Fu _
 have HN:=Fs hnm
 have hz2:=bel.size
 have H2:=Fs (Ft (H1.out.1.below bel) (Ft (H1.out.2.1.below bel) (Ft (H1.out.2.2.1.trans (Qx.of_below bel)) (Ft (H1.out.2.2.2.1.below bel) (H1.out.2.2.2.2.below bel)))))
 have s2:w2.cell? ⟨w.heap.size,0,none⟩=some (.slice A L.length c):=H2.out.2.2.2.1.cell 0 rfl
 clear hnm bel H1 s0
 generalize Tg (Ye L.length)=y at*
 have hg2:w.heap.size < w2.heap.size:=by omega
 go_wp2_with fail
 generalize x++y=nm at*
 obtain ⟨W3,hW3⟩:∃W3,W3=w2.alloc (.cells #[.string nm, .int .i64 7, .int .i64 0, .bool false, .slice none 0 0, .slice none 0 0, .slice none 0 0, .slice none 0 0] 50):=⟨_,rfl⟩
 rw [←hW3]
 have H3:Py b lo B v l (.slice A L.length c) L w w2.heap.size #[.string nm, .int .i64 7, .int .i64 0, .bool false, .slice none 0 0, .slice none 0 0, .slice none 0 0, .slice none 0 0] W3:=by
  rw [hW3]
  exact ⟨H2.out.1.alloc _,H2.out.2.1.below ((Fv _ _).alloc (Fu _) _),H2.out.2.2.1.alloc _,H2.out.2.2.2.1.alloc _,H2.out.2.2.2.2.alloc _,Zo.new w2 _ _,hbw,hlo,by omega,hB⟩
 have HZ3:=Fs (show W3.heap.size=w2.heap.size+1 by rw [hW3];simp)
 clear hW3 H2 s2
 have hh1:L[0].d.kind=1:=by have:=HD.out.head (by rw [hlm];exact hL0);rwa [List.getElem_map] at this
 refine (Rk b lo B v (.slice A L.length c) l L W3 H3.cur H3.st hlo (by have:=H3.go.size;omega) hL0 (by omega) hh1).mono ?_
 rintro e w3 ⟨⟨k,hkl,rfl,hkk⟩,hs,hc3⟩
 have hlim:=Fs (HD.out.limit (k:=k) (by rw [hlm];exact hkl) (by rw [List.getElem_map];exact hkk))
 have H4:=Fs (H3.step hs hc3)
 clear H3 hs hc3 hkk hh1
 have hgl:=H4.out.box.lt
 have hrl:=H4.out.res.lt
 have hgs:=H4.out.go.size
 obtain ⟨⟨q0,q1,q2,q3,q4,q5,q6,q7⟩,f0,f1,f2,f3,f4,f5,f6,f7⟩:=H4.out.box.c8
 obtain ⟨⟨r0,r1,r2,r3,r4,r5,r6,r7⟩,e0,e1,e2,e3,e4,e5,e6,e7⟩:=H4.out.res.c8
 go_wp2_with fail
 obtain ⟨W4,hW4⟩:∃W4,W4=(w3.setCell ⟨w2.heap.size,7,none⟩ (.slice (some ⟨w3.heap.size,0,none⟩) 1 1)).alloc (.cells #[.int .i64 k] 3):=⟨_,rfl⟩
 rw [←hW4]
 have HR0:=Fs (show Rz b lo B v l (.slice A L.length c) L w w2.heap.size nm 7 (w2.heap.size+1) (.slice none 0 0) (.slice none 0 0) (.slice (some ⟨w3.heap.size,0,none⟩) 1 1) [] [] [(k:Int)] W4 by
  have hsz2:(w3.setCell ⟨w2.heap.size,7,none⟩ (.slice (some ⟨w3.heap.size,0,none⟩) 1 1)).heap.size=w3.heap.size:=by simp
  have HB:Zo W4 w3.heap.size 3 #[.int .i64 k]:=by rw [hW4];have:=Zo.new (w3.setCell ⟨w2.heap.size,7,none⟩ (.slice (some ⟨w3.heap.size,0,none⟩) 1 1)) 3 #[.int .i64 k];rwa [hsz2] at this
  refine ⟨by rw [hW4];exact (H4.out.set 7 (.slice (some ⟨w3.heap.size,0,none⟩) 1 1)).alloc _,World.ownsRow_nil _ _ _ _,World.ownsRow_nil _ _ _ _,own_blk HB rfl (by simp [maxLen]) (by omega),(fun _ e=> by cases e),(fun _ e=> by cases e),(fun _ e=> by cases e),Nat.lt_succ_self _,by rw [hW4];simp;omega⟩)
 have hz4:w3.heap.size < W4.heap.size:=by rw [hW4];simp
 clear hW4 H4 q0 q1 q2 q3 q4 q5 q6 q7 f0 f1 f2 f3 f4 f5 f6 f7 r0 r1 r2 r3 r4 r5 r6 r7 e0 e1 e2 e3 e4 e5 e6 e7
 refine (Qn b b v l 3 W4 HR0.out.ms.cur (by omega) (by omega)).mono ?_
 rintro e w4 ⟨⟨z,rfl,hz0',hz1'⟩,hs,hzq,hc3⟩
 clear hzq
 obtain ⟨m1,rfl⟩:=Int.eq_ofNat_of_zero_le hz0'
 obtain ⟨m,hm⟩:∃m:Nat,m=1+m1:=⟨_,rfl⟩
 have HMm:=Fs hm
 have hm3:m≤3:=by omega
 have hm1:1≤m:=by omega
 obtain ⟨i0,hi,hz0,hz1,hz2⟩:=info_parts info_i64
 have HR:=Fs (HR0.out.step hs hc3)
 clear HR0 hs hc3 hz0'
 clear hm
 go_wp2
 go_loopw [10] (fun i wr=> ∃(tags kids:List Int) (vt vk:Value),i= .int .i64 ((m - tags.length:Nat):Int)∧tags.length≤m∧ChI L.length tags kids∧Rz b lo B v l (.slice A L.length c) L w w2.heap.size nm 7 (w2.heap.size+1) (.slice none 0 0) vt vk [] tags ((k:Int)::kids) wr) (fun i _=> (intOf i).natAbs)
 case atStart=> exact ⟨[], [],_,_,by congr 1;have:=HMm.out;simp only [List.length_nil];omega,Eb _,ChI.nil,HR.out⟩
 case round=>
  obtain ⟨tags,kids,vt,vk,rfl,hle,hseq,hr⟩:=hrel
  have HQ:=Fs hseq
  have hkln:=Fs hseq.len
  have HX:=Fs hr
  clear hseq hr HR
  by_cases hlt:tags.length < m
  ·obtain ⟨i,hi2⟩:∃i:Nat,i=m - tags.length:=⟨_,rfl⟩
   rw [←hi2]
   have hipos:(0:Int) < i:=by omega
   have hi4:i≤3:=by omega
   have HI:=Fs hi2
   have hnl:tags.length≤3:=by omega
   have hkl3:((k:Int)::kids).length≤4:=by have:=hkln.out;simp only [List.length_cons];omega
   clear hi2
   generalize hkids:(k:Int)::kids=ks at*
   have HKS:=Fs hkids
   clear hkids
   obtain ⟨At,ct,rfl⟩:=Zq HX.out.rt
   have HXD:=Fs HX.out.drew
   have hw1:IntKind.i64.wrap (4*(tags.length:Int))=4*(tags.length:Int):=IntWalk.i64_in _ (by omega)
   go_wp2_with fail
   refine Qr (S:=(fun w9=> w9.cell? ⟨w2.heap.size,6,none⟩=some (.slice At tags.length ct))) 12 (by kernel_rfl) ?_ (fun hHeld=> ?_)
   ·(try dsimp only);exact HXD.out.ms.box.cell 6 rfl
   refine Zt 0 (some 110) hHeld _ ?_;try go_frame
   refine Zt 1 (some 111) hHeld _ ?_;try go_frame
   refine Zt 2 (some 112) hHeld _ ?_;try go_frame
   refine Zt 3 (some 113) hHeld _ ?_;try go_frame
   refine Zt 4 (some 114) hHeld _ ?_;try go_frame
   refine Zt 5 (some 115) hHeld _ ?_;try go_frame
   refine Zt 6 (some 116) hHeld _ ?_;try go_frame
   refine Qw 7 (fun K hK=> ?_)
   go_simp
   refine (Qn b b v l 4 _ HXD.out.ms.cur (by omega) (by omega)).mono ?_;rintro e X4 ⟨⟨p,rfl,hp0,hp1⟩,hs4,hzq,hc4⟩;clear hzq;have HZ:=Fs (HXD.out.step hs4 hc4);clear hs4 hc4
   (try go_wp2_with fail)
   refine hK.out _ _ ?_ (fun hHeld=> ?_)
   ·(try dsimp only);first|exact hk6|exact HZ.out.ms.box.cell 6 rfl
   clear hK K
   try go_frame
   refine Zt 8 (some 118) hHeld _ ?_;try go_frame
   refine Qw 9 (fun K hK=> ?_)
   (try go_simp)
   obtain ⟨X5,hX5⟩:∃V,V=X4.alloc (.cells #[.int .i64 (4*(tags.length:Int)+p)] 3):=⟨_,rfl⟩;rw [show IntKind.i64.wrap (4*(tags.length:Int)+p)=4*(tags.length:Int)+p from IntWalk.i64_in _ (by omega)];rw [←hX5];have hsl:=Fs (show Sl X5 (X4.heap.size+1) 1 (.slice (some ⟨X4.heap.size,0,none⟩) 1 1) 1 [.int .i64 (4*(tags.length:Int)+p)] by rw [hX5];exact Pq rfl);have HZ:=Fs (by rw [hX5];exact HZ.out.alloc _:Rz b lo B v l (.slice A L.length c) L w w2.heap.size nm 7 (w2.heap.size+1) (.slice none 0 0) (.slice At tags.length ct) vk [] tags ks X5);clear hX5
   refine hK.out _ _ ?_ (fun hHeld=> ?_)
   ·(try dsimp only);first|exact hk6|exact HZ.out.ms.box.cell 6 rfl
   clear hK K
   try go_frame
   refine Qw 10 (fun K hK=> ?_)
   refine Je _ (.tmp 111) (.tmp 119) 48 rfl (w2.heap.size+1) 3 i0 (.int .i64 0) 1 8 underlying48 hi hz0 hz1 hz2 rfl (by decide) _ tags.length _ rfl (by exact HZ.out.rt) _ 1 _ [.int .i64 (4*(tags.length:Int)+p)] rfl (by exact hsl.out) (by simp [Value.oneCell']) (by omega) (by unfold maxLen;omega) HZ.out.bz ?_;intro vn2 X6 own2 hg2 hv2;obtain ⟨An,cn,rfl⟩:=Zq own2;have HM:=Fs (HZ.out.appT own2 hg2 hv2);clear own2 hg2 hv2;have hk6:X6.cell? ⟨w2.heap.size,6,none⟩=some (.slice At tags.length ct):=HM.out.1.box.cell 6 rfl;have hf6:=HM.out.1.box.frozen 6
   refine hK.out _ _ ?_ (fun hHeld=> ?_)
   ·(try dsimp only);first|exact hk6|exact HZ.out.ms.box.cell 6 rfl
   clear hK K
   try go_frame
   refine Zt 11 (some 121) hHeld _ ?_;try go_frame
   refine Uz (fun K hK=> ?_)
   (try go_simp)
   refine hK.out _ _ ?_
   clear hK K
   try go_frame
   refine Js (by kernel_rfl) ?_ _
   obtain ⟨X7,hX7⟩:∃V,V=X6.setCell ⟨w2.heap.size,6,none⟩ (.slice An (tags.length+1) cn):=⟨_,rfl⟩
   rw [←hX7]
   have HY:=Fs (by rw [hX7];exact HM.out.2.drew:Rz b lo B v l (.slice A L.length c) L w w2.heap.size nm 7 (w2.heap.size+1) (.slice none 0 0) (.slice An (tags.length+1) cn) vk [] (tags++ [4*(tags.length:Int)+p]) ks X7.drew)
   clear hX7 HM hk6 hf6 HZ HX HXD
   go_wp2_with fail
   refine Qr (S:=(fun w9=> w9.cell? ⟨w2.heap.size,7,none⟩=some vk)) 8 (by kernel_rfl) ?_ (fun hHeld=> ?_)
   ·(try dsimp only);exact HY.out.ms.box.cell 7 rfl
   refine Zt 0 (some 122) hHeld _ ?_;try go_frame
   refine Zt 1 (some 123) hHeld _ ?_;try go_frame
   refine Zt 2 (some 124) hHeld _ ?_;try go_frame
   refine Zt 3 (some 125) hHeld _ ?_;try go_frame
   refine Qw 4 (fun K hK=> ?_)
   go_simp
   refine (Qn b b v l L.length _ HY.out.ms.cur (by omega) (by omega)).mono ?_;rintro e X4 ⟨⟨q,rfl,hq0,hq1⟩,hs4,hzq,hc4⟩;clear hzq;have HZ:=Fs (HY.out.step hs4 hc4);clear hs4 hc4
   (try go_wp2_with fail)
   refine hK.out _ _ ?_ (fun hHeld=> ?_)
   ·(try dsimp only);first|exact hk7|exact HZ.out.ms.box.cell 7 rfl
   clear hK K
   try go_frame
   refine Qw 5 (fun K hK=> ?_)
   (try go_simp)
   obtain ⟨X5,hX5⟩:∃V,V=X4.alloc (.cells #[.int .i64 q] 3):=⟨_,rfl⟩;rw [←hX5];have hsl:=Fs (show Sl X5 (X4.heap.size+1) 1 (.slice (some ⟨X4.heap.size,0,none⟩) 1 1) 1 [.int .i64 q] by rw [hX5];exact Pq rfl);have HZ:=Fs (by rw [hX5];exact HZ.out.alloc _:Rz b lo B v l (.slice A L.length c) L w w2.heap.size nm 7 (w2.heap.size+1) (.slice none 0 0) (.slice An (tags.length+1) cn) vk [] (tags++ [4*(tags.length:Int)+p]) ks X5);clear hX5
   refine hK.out _ _ ?_ (fun hHeld=> ?_)
   ·(try dsimp only);first|exact hk7|exact HZ.out.ms.box.cell 7 rfl
   clear hK K
   try go_frame
   refine Qw 6 (fun K hK=> ?_)
   refine Je _ (.tmp 123) (.tmp 127) 48 rfl (w2.heap.size+1) 3 i0 (.int .i64 0) 1 8 underlying48 hi hz0 hz1 hz2 rfl (by decide) _ ks.length _ rfl (by exact HZ.out.rk) _ 1 _ [.int .i64 q] rfl (by exact hsl.out) (by simp [Value.oneCell']) (by omega) (by unfold maxLen;omega) HZ.out.bz ?_;intro vk2 X8 own2 hg2 hv2;obtain ⟨Ak,ck,rfl⟩:=Zq own2;have HM:=Fs (HZ.out.appK own2 hg2 hv2);clear own2 hg2 hv2;have hk7:=HM.out.1.box.cell 7 rfl;have hf7:=HM.out.1.box.frozen 7
   refine hK.out _ _ ?_ (fun hHeld=> ?_)
   ·(try dsimp only);first|exact hk7|exact HZ.out.ms.box.cell 7 rfl
   clear hK K
   try go_frame
   refine Zt 7 (some 129) hHeld _ ?_;try go_frame
   refine Uz (fun K hK=> ?_)
   (try go_simp)
   refine hK.out _ _ ?_
   clear hK K
   try go_frame
   refine Js (by kernel_rfl) ?_ _
   obtain ⟨X9,hX9⟩:∃V,V=X8.setCell ⟨w2.heap.size,7,none⟩ (.slice Ak (ks.length+1) ck):=⟨_,rfl⟩
   rw [←hX9]
   have HY:=Fs (by rw [hX9];exact HM.out.2:Rz b lo B v l (.slice A L.length c) L w w2.heap.size nm 7 (w2.heap.size+1) (.slice none 0 0) (.slice An (tags.length+1) cn) (.slice Ak (ks.length+1) ck) [] (tags++ [4*(tags.length:Int)+p]) (ks++ [q]) X9)
   clear hX9 HM hk7 hf7 HZ
   go_wp2
   go_roundw
   case rel=> exact ⟨tags++ [4*(tags.length:Int)+p],kids++ [q],_,_,by congr 1;have:=HI.out;simp only [List.length_append,List.length_cons,List.length_nil];omega,by simp only [List.length_append,List.length_cons,List.length_nil];omega,HQ.out.snoc (by omega) (by omega) hq0 hq1,by rw [←List.cons_append,HKS.out];exact HY.out⟩
   case measure=> simp [intOf];omega
  ·have hml:m - tags.length=0:=by omega
   have hmn:tags.length=m:=by omega
   have HMN:=Fs hmn
   rw [hml]
   clear hml hmn hle hlt
   generalize hkids:(k:Int)::kids=ks at*
   have HKS:=Fs hkids
   clear hkids
   obtain ⟨Av,cv,rfl⟩:=Zq HX.out.rt
   obtain ⟨Au,cu,rfl⟩:=Zq HX.out.rk
   obtain ⟨⟨q0,q1,q2,q3,q4,q5,q6,q7⟩,f0,f1,f2,f3,f4,f5,f6,f7⟩:=HX.out.ms.box.c8
   obtain ⟨⟨r0,r1,r2,r3,r4,r5,r6,r7⟩,e0,e1,e2,e3,e4,e5,e6,e7⟩:=HX.out.ms.res.c8
   go_wp2
   have H5:=HX.out.ms
   obtain ⟨Wf,hWf,hR,hgo,hcu,hsz,hk⟩:=H5.fin (.string nm) (.int .i64 7) (.int .i64 0) (.bool false) (.slice none 0 0) (.slice none 0 0) (.slice Av tags.length cv) (.slice Au ks.length cu)
   rw [←hWf]
   obtain ⟨⟨t0,t1,t2,t3,t4,t5,t6,t7⟩, -⟩:=hR.c8
   refine bodyPost_ret (v:= .agg #[.string nm, .int .i64 7, .int .i64 0, .bool false, .slice none 0 0, .slice none 0 0, .slice Av tags.length cv, .slice Au ks.length cu]) (by simp [results,results48,go_sem,t0,t1,t2,t3,t4,t5,t6,t7]) rfl ?_
   refine ⟨⟨⟨nm,7,0,false, [], [],tags,ks⟩, .slice none 0 0, .slice none 0 0, .slice Av tags.length cv, .slice Au ks.length cu⟩,rfl,(by rw [←HKS.out];exact dr_choice (by rw [hlm];exact HN.out) (by omega) (by rw [hlm];omega) hlim.out.1 (by rw [hlm];exact HQ.out) (by have:=HMN.out;omega) (by have:=HMN.out;omega)),HX.out.rd hsz hk rfl,hgo,hcu⟩
theorem Oj (b lo B:Nat) (v vD:Value) (l:List UInt8) (L:List RM) (K:Int) (w:World) (h:Qo b v l w) (hd:Zy lo B (fun w'=> Qz w' B vD L) w) (hlo:b < lo) (hB:B≤w.heap.size) (hD:Ud (L.map RM.d)) (h0:K≠1→0 < L.length) (h8:L.length≤8) (h1:1≤K) (h10:K≤10):
  Calls prog 48 #[.pointer (some ⟨b,0,none⟩), .agg #[vD], .int .i64 K] w (Pk b v l L w):=by
 have hc:K=1∨K=2∨K=3∨K=4∨K=5∨K=6∨K=7∨K=8∨K=9∨K=10:=by omega
 rcases hc with rfl|rfl|rfl|rfl|rfl|rfl|rfl|rfl|rfl|rfl
 ·exact l4Make_1 b lo B v vD l L w h hd hlo hB hD h8
 ·exact l4Make_2 b lo B v vD l L w h hd hlo hB hD (h0 (by decide)) h8
 ·exact l4Make_3 b lo B v vD l L w h hd hlo hB hD (h0 (by decide)) h8
 ·exact l4Make_4 b lo B v vD l L w h hd hlo hB hD (h0 (by decide)) h8
 ·exact l4Make_5 b lo B v vD l L w h hd hlo hB hD (h0 (by decide)) h8
 ·exact l4Make_6 b lo B v vD l L w h hd hlo hB hD (h0 (by decide)) h8
 ·exact l4Make_7 b lo B v vD l L w h hd hlo hB hD (h0 (by decide)) h8
 ·exact l4Make_8 b lo B v vD l L w h hd hlo hB hD (h0 (by decide)) h8
 ·exact l4Make_9 b lo B v vD l L w h hd hlo hB hD (h0 (by decide)) h8
 ·exact l4Make_10 b lo B v vD l L w h hd hlo hB hD (h0 (by decide)) h8
structure Hg (b g:Nat) (w W:World):Prop where
 os:W.os=w.os
 tape:W.tape=w.tape
 output:W.output=w.output
 size:w.heap.size≤W.heap.size
 block:∀k,k < g→k≠b→W.heap[k]?=w.heap[k]?
section
variable {b g:Nat} {w w0 W W':World}
theorem Hg.refl (b g:Nat) (w:World):Hg b g w w:=⟨rfl,rfl,rfl,Fu _,fun _ _ _=> rfl⟩
theorem Hg.trans (h:Hg b g w W) (h':Hg b g W W'):Hg b g w W':=⟨h'.os.trans h.os,h'.tape.trans h.tape,h'.output.trans h.output,Nat.le_trans h.size h'.size,fun k h1 h2=> (h'.block k h1 h2).trans (h.block k h1 h2)⟩
theorem Hg.of_go (hs:Qx b W W') (hg:g≤W.heap.size):Hg b g W W':=⟨hs.os,hs.tape,hs.output,hs.size,fun k h1 h2=> hs.block k (Ea h1 hg) (fun e=> h2 (Fz e))⟩
theorem Hg.of_row {row:Option Nat} (hg:W.grownBy W' row) (hr:∀k,row=some k→g≤k) (hz:g≤W.heap.size):Hg b g W W':=⟨hg.os,hg.tape,hg.output,hg.size,fun k h1 h2=> hg.block k (Ea h1 hz) (fun e=> by have:=hr k e.symm;omega)⟩
theorem Hg.set (h:Hg b g w W) {q j:Nat} (hq:g≤q) (u:Value):Hg b g w (W.setCell ⟨q,j,none⟩ u):=⟨h.os,h.tape,h.output,by simpa using h.size,fun k h1 h2=> (Below.heap_setCell _ _ _ k (by rintro rfl;omega)).trans (h.block k h1 h2)⟩
theorem Hg.fin (h0:Qx b w0 w) (h:Hg b g w W) (hg:w0.heap.size≤g):Qx b w0 W:=⟨h.os.trans h0.os,h.tape.trans h0.tape,h.output.trans h0.output,Nat.le_trans h0.size h.size,fun k h1 h2=> (h.block k (by omega) (fun e=> h2 (by rw [e]))).trans (h0.block k h1 h2)⟩
theorem Hg.cell (h:Hg b g w W) {q o:Nat} {u:Value} (hc:w.cell? ⟨q,o,none⟩=some u) (h1:q < g) (h2:q≠b):W.cell? ⟨q,o,none⟩=some u:=by
 rw [←hc]
 unfold World.cell?
 simp only
 rw [h.block q h1 h2]
theorem Zo.gol {T:TypeId} {cs:Array Value} {q:Nat} (h:Zo w q T cs) (hl:Hg b g w W) (h1:q < g) (h2:q≠b):Zo W q T cs:=(hl.block q h1 h2).trans h
end
structure Hh (b:Nat) (v:Value) (l:List UInt8) (w1:World) (lo g:Nat) (vD:Value) (L:List RM) (W:World):Prop where
 cur:Qo b v l W
 gl:Hg b g w1 W
 dg:DG lo W vD L
 box:Zo W g 26 #[vD]
 dr:Ud (L.map RM.d)
 bg:b < g
 gg:g < lo
 ls:lo≤W.heap.size
section
variable {b lo g:Nat} {v vD vD':Value} {l:List UInt8} {L:List RM} {w1 W W' W2 Wa W3:World}
theorem Hh.step (h:Hh b v l w1 lo g vD L W) (hs:Qx b W W') (hc:Qo b v l W'):Hh b v l w1 lo g vD L W':=
 have h1:=h.bg
 have h2:=h.gg
 have h3:=h.ls
 ⟨hc,h.gl.trans (Hg.of_go hs (by omega)),h.dg.go hs (by omega),h.box.go hs (by omega),h.dr,h.bg,h.gg,Nat.le_trans h.ls hs.size⟩
theorem Hh.below (h:Hh b v l w1 lo g vD L W) (hb:Below W.heap.size W W'):Hh b v l w1 lo g vD L W':=h.step (Qx.of_below hb) (h.cur.below hb)
theorem Hh.alloc (h:Hh b v l w1 lo g vD L W) (o:Obj):Hh b v l w1 lo g vD L (W.alloc o):=h.below ((Fv _ _).alloc (Fu _) o)
theorem Hh.drew (h:Hh b v l w1 lo g vD L W):Hh b v l w1 lo g vD L W.drew:=h.step ⟨rfl,rfl,rfl,Fu _,fun _ _ _=> rfl⟩ h.cur.drew
theorem Hh.app {r:RM} (h:Hh b v l w1 lo g vD L W) (hr:DrR (L.map RM.d) r.d) (hst:Zy W.heap.size W2.heap.size (fun w''=> r.rd w'' W2.heap.size) W2) (hgo:Qx b W W2) (hcu:Qo b v l W2) (ha:Below W2.heap.size W2 Wa)
  (own2:W3.ownsRow lo 50 8 vD' (L.length+1) (L.flatMap Qq++Qq r)) (hg:Wa.grownBy W3 vD.ownBlock) (hv:vD'.ownBlock=vD.ownBlock∨vD'.ownBlock=some Wa.heap.size):
  Zo W3 g 26 #[vD]∧Hh b v l w1 lo g vD' (L++ [r]) (W3.setCell ⟨g,0,none⟩ vD'):=by
 have h1:=h.bg
 have h2:=h.gg
 have h3:=h.ls
 have hS:=(h.step hgo hcu).below ha
 have hr0:∀k,vD.ownBlock=some k→lo≤k:=fun k e=> (h.dg.row.lt k e).1
 have hB:Zo W3 g 26 #[vD]:=hS.box.row hg (fun e=> by have:=hr0 _ e;omega)
 have hdg:=(h.dg.go hgo (by omega)).snoc hst (fun k e=> (h.dg.row.lt k e).2) hgo.size h3 ha own2 hg hv
 have hz3:=hg.size
 have hza:=hS.ls
 refine ⟨hB,(hS.cur.rowG hg fun k e=> by have:=hr0 k e;omega).set (by omega) _,(hS.gl.trans (Hg.of_row hg (fun k e=> by have:=hr0 k e;omega) (by omega))).set (Fu _) _,hdg.step (by simp) (fun k h1 h2=> Below.heap_setCell _ _ _ k (show k≠g by omega)),?_,?_,h1,h2,by simp;omega⟩
 ·have:=hB.set 0 vD'
  simpa using this
 ·rw [List.map_append];exact h.dr.snoc hr
theorem Hh.stays (h:Hh b v l w1 lo g vD L W):Zy lo W.heap.size (fun w'=> Qz w' W.heap.size vD L) W:=h.dg.stays
end
theorem Mf (b:Nat) (v:Value) (l:List UInt8) (w:World) (h:Qo b v l w):
  Calls prog 47 #[.pointer (some ⟨b,0,none⟩)] w fun e w'=> ∃A c,∃L:List RM,e= .returned (.agg #[.slice A L.length c])∧Ud (L.map RM.d)∧1≤L.length∧L.length≤6∧DG (w.heap.size+2) w' (.slice A L.length c) L∧Qx b w w'∧Qo b v l w':=by
 obtain ⟨i0,hi,hz0,hz1,hz2⟩:=info_parts info_rule
 have hbw:=h.lt
 obtain ⟨W0,hW0⟩:∃W0,W0=(w.alloc (.cells #[.slice none 0 0] 26)).alloc (.cells #[.slice none 0 0] 26):=⟨_,rfl⟩
 have hb0:Below w.heap.size w W0:=by rw [hW0];exact ((Fv w.heap.size w).alloc (Fu _) _).alloc (by simp) _
 have hz0':W0.heap.size=w.heap.size+2:=by rw [hW0];simp
 have R0:Zo W0 w.heap.size 26 #[.slice none 0 0]:=by rw [hW0];exact (Zo.new w _ _).alloc _
 have B0:Zo W0 (w.heap.size+1) 26 #[.slice none 0 0]:=by rw [hW0];have:=Zo.new (w.alloc (.cells #[.slice none 0 0] 26)) 26 #[.slice none 0 0];simpa using this
 have HX:=Fs ((Hh.mk (lo:=w.heap.size+2) (g:=w.heap.size+1) (L:= []) (h.below hb0) (Hg.refl _ _ W0) (DG.nil _ _) B0 Ud.nil (by omega) (by omega) (by omega)).drew)
 have HB:=Fs (Ft (Qx.of_below (b:=b) hb0) R0)
 clear h hb0 R0 B0 hz0'
 go_enter func47,ntmps47
 go_upto_region 2 with fail
 rw [←hW0]
 clear hW0
 obtain ⟨Ar,cr,L,hL0,hAr,hcr⟩:∃(Ar:Option Addr) (cr:Nat) (L:List RM),L= []∧Ar=none∧cr=0:=⟨none,0, [],rfl,rfl,rfl⟩
 have HX:Hid (Hh b v l W0 (w.heap.size+2) (w.heap.size+1) (.slice Ar L.length cr) L W0.drew):=by subst hL0 hAr hcr;exact HX
 have hL8:L.length≤0:=by rw [hL0];simp
 clear hL0 hAr hcr
 refine Qr (S:=(fun w9=> w9.cell? ⟨w.heap.size+1,0,none⟩=some (.slice Ar L.length cr))) 8 (by kernel_rfl) ?_ (fun hHeld=> ?_)
 ·(try dsimp only);exact HX.out.box.cell 0 rfl
 refine Zt 0 (some 6) hHeld _ ?_;try go_frame
 refine Zt 1 (some 7) hHeld _ ?_;try go_frame
 refine Zt 2 (some 8) hHeld _ ?_;try go_frame
 refine Zt 3 (some 9) hHeld _ ?_;try go_frame
 refine Qw 4 (fun K hK=> ?_)
 go_simp
 have HP:=HX;have hzp:=HX.out.ls;refine (Oj b (w.heap.size+2) _ v (.slice Ar L.length cr) l L 1 _ HX.out.cur HX.out.stays (by have:=HX.out.bg;have:=HX.out.gg;omega) (Fu _) HX.out.dr (fun h=> absurd rfl h) (by omega) (by omega) (by omega)).mono ?_;rintro e X2 ⟨r,rfl,hdr,hst,hgo,hcu⟩;obtain ⟨A1,c1,e1, -⟩:=hst.now.b.open_;obtain ⟨A2,c2,e2, -⟩:=Sl.one hst.now.n;obtain ⟨A3,c3,e3, -⟩:=Sl.one hst.now.t;obtain ⟨A4,c4,e4, -⟩:=Sl.one hst.now.k;have HM:=Fs (Ft hdr (Ft hst (Ft hgo hcu)));have HX:=Fs (HX.out.step hgo hcu);clear hdr hst hgo hcu;have HE:=Fs (Ft e1 (Ft e2 (Ft e3 e4)));unfold Ja;rw [e1,e2,e3,e4];clear e1 e2 e3 e4
 (try go_wp2_with fail)
 refine hK.out _ _ ?_ (fun hHeld=> ?_)
 ·(try dsimp only);first|exact hk0|exact HX.out.box.cell 0 rfl
 clear hK K
 try go_frame
 refine Qw 5 (fun K hK=> ?_)
 (try go_simp)
 obtain ⟨X3,hX3⟩:∃V,V=X2.alloc (.cells #[.string r.d.name, .int .i64 r.d.kind, .int .i64 r.d.size, .bool r.d.little, .slice A1 r.d.bytes.length c1, .slice A2 r.d.names.length c2, .slice A3 r.d.tags.length c3, .slice A4 r.d.kids.length c4] 50):=⟨_,rfl⟩;rw [←hX3];have hal:Below X2.heap.size X2 X3:=(by rw [hX3];exact (Fv _ _).alloc (Fu _) _);have hsl:=Fs (show Sl X3 (X2.heap.size+1) 8 (.slice (some ⟨X2.heap.size,0,none⟩) 1 1) 1 (Qq r) by rw [hX3];exact Tj (xs:=Qq r) (by unfold Qq;rw [HE.out.1,HE.out.2.1,HE.out.2.2.1,HE.out.2.2.2];exact Zo.new X2 _ _) rfl (Nat.lt_succ_self _));have HX:=Fs (HX.out.below hal);have HA:=Fs hal;clear hX3 hal
 refine hK.out _ _ ?_ (fun hHeld=> ?_)
 ·(try dsimp only);first|exact hk0|exact HX.out.box.cell 0 rfl
 clear hK K
 try go_frame
 refine Qw 6 (fun K hK=> ?_)
 have hone:∀u∈Qq r,u.oneCell'=true:=(by intro u hu;unfold Qq at hu;rw [HE.out.1,HE.out.2.1,HE.out.2.2.1,HE.out.2.2.2] at hu;simp only [List.mem_cons,List.not_mem_nil,or_false] at hu;rcases hu with rfl|rfl|rfl|rfl|rfl|rfl|rfl|rfl <;> rfl);refine Je _ (.tmp 7) (.tmp 11) 24 rfl (w.heap.size+2) 50 i0 (.agg #[.string ⟨#[]⟩, .int .i64 0, .int .i64 0, .bool false, .slice none 0 0, .slice none 0 0, .slice none 0 0, .slice none 0 0]) 8 136 underlying24 hi hz0 hz1 hz2 rfl (by decide) _ L.length (L.flatMap Qq) rfl (by exact HX.out.dg.row) _ 1 _ (Qq r) rfl (by exact hsl.out) hone (by omega) (by unfold maxLen;omega) HX.out.ls ?_;intro v2 X6 own2 hg2 hv2;obtain ⟨An,cn,rfl⟩:=Zq own2;have HM:=Fs (HP.out.app HM.out.1 HM.out.2.1 HM.out.2.2.1 HM.out.2.2.2 HA.out own2 hg2 hv2);clear own2 hg2 hv2 hone;have hk0:X6.cell? ⟨w.heap.size+1,0,none⟩=some (.slice Ar L.length cr):=HM.out.1.cell 0 rfl;have hf0:=HM.out.1.frozen 0
 refine hK.out _ _ ?_ (fun hHeld=> ?_)
 ·(try dsimp only);first|exact hk0|exact HX.out.box.cell 0 rfl
 clear hK K
 try go_frame
 refine Zt 7 (some 13) hHeld _ ?_;try go_frame
 refine Uz (fun K hK=> ?_)
 (try go_simp)
 refine hK.out _ _ ?_
 clear hK K
 try go_frame
 refine Js (by kernel_rfl) ?_ _
 obtain ⟨X7,hX7⟩:∃V,V=X6.setCell ⟨w.heap.size+1,0,none⟩ (.slice An (L.length+1) cn):=⟨_,rfl⟩
 rw [←hX7]
 obtain ⟨L1,hL1⟩:∃L1,L1=L++ [r]:=⟨_,rfl⟩
 have hl1:L1.length=L.length+1:=by rw [hL1];simp
 have HY:=Fs (by rw [hX7,hL1];simpa using HM.out.2:Hh b v l W0 (w.heap.size+2) (w.heap.size+1) (.slice An L1.length cn) L1 X7)
 have hL1a:1≤L1.length:=by omega
 have hL1b:L1.length≤1:=by rw [hl1];exact Nat.succ_le_succ hL8
 clear hX7 HM hk0 hf0 HX HP HA hsl HE hL1 hl1 hL8
 go_wp2_with fail
 refine (Qn b b v l 6 X7 HY.out.cur (by omega) (by omega)).mono ?_
 rintro e X8 ⟨⟨z,rfl,hz0',hz1'⟩,hs,hzq,hc3⟩
 obtain ⟨zn,rfl⟩:=Int.eq_ofNat_of_zero_le hz0'
 have HZ:=Fs (HY.out.step hs hc3)
 clear hzq hs hc3 HY
 go_wp2
 go_loopw [4] (fun i wr=> ∃(k:Nat) (A':Option Addr) (c':Nat) (L':List RM),i= .int .i64 k∧L'.length+k≤6∧1≤L'.length∧Hh b v l W0 (w.heap.size+2) (w.heap.size+1) (.slice A' L'.length c') L' wr) (fun i _=> (intOf i).natAbs)
 case atStart=> exact ⟨zn,_,_,L1,rfl,by omega,hL1a,HZ.out⟩
 case round=>
  clear HZ hL1a hL1b
  obtain ⟨k,Ar,cr,L,rfl,hk6,hL1,hds⟩:=hrel
  by_cases hk0':k=0
  ·subst hk0'
   have HD:=Fs hds
   have q0:=HD.out.box.cell 0 rfl
   simp only [List.getElem_toArray,List.getElem_cons_zero] at q0
   have hR:Zo wr w.heap.size 26 #[.slice none 0 0]:=HB.out.2.gol hds.gl (by omega) (by omega)
   have r0:=hR.cell 0 rfl
   have e0:=hR.frozen 0
   have hgo:=Fs (Hg.fin HB.out.1 hds.gl (by omega))
   have hgw:=hgo.out.size
   clear hds
   go_wp2
   have q1:(wr.setCell ⟨w.heap.size,0,none⟩ (.slice Ar L.length cr)).cell? ⟨w.heap.size,0,none⟩=some (.slice Ar L.length cr):=World.cell?_setCell_same _ _ _ r0
   refine bodyPost_ret (v:= .agg #[.slice Ar L.length cr]) (by simp [results,results47,go_sem,q1]) rfl ⟨Ar,cr,L,rfl,HD.out.dr,hL1,by omega,HD.out.dg.step (by simp) (fun k h1 h2=> Below.heap_setCell _ _ _ k (show k≠w.heap.size by omega)),hgo.out.set (Fu _) _,HD.out.cur.set hbw _⟩
  ·have hpos:(0:Int) < k:=by omega
   have hL8:L.length≤8:=by omega
   have HX:=Fs hds.drew
   clear hds
   go_wp2_with fail
   refine Qr (S:=(fun w9=> w9.cell? ⟨w.heap.size+1,0,none⟩=some (.slice Ar L.length cr))) 11 (by kernel_rfl) ?_ (fun hHeld=> ?_)
   ·(try dsimp only);exact HX.out.box.cell 0 rfl
   refine Zt 0 (some 20) hHeld _ ?_;try go_frame
   refine Zt 1 (some 21) hHeld _ ?_;try go_frame
   refine Zt 2 (some 22) hHeld _ ?_;try go_frame
   refine Zt 3 (some 23) hHeld _ ?_;try go_frame
   refine Zt 4 (some 24) hHeld _ ?_;try go_frame
   refine Qw 5 (fun K hK=> ?_)
   go_simp
   refine (Qn b b v l 10 _ HX.out.cur (by omega) (by omega)).mono ?_;rintro e X1 ⟨⟨z,rfl,hz0',hz1'⟩,hs,hzq,hc3⟩;clear hzq;have HX:=Fs (HX.out.step hs hc3);clear hs hc3
   (try go_wp2_with fail)
   refine hK.out _ _ ?_ (fun hHeld=> ?_)
   ·(try dsimp only);first|exact hk0|exact HX.out.box.cell 0 rfl
   clear hK K
   try go_frame
   refine Zt 6 (some 26) hHeld _ ?_;try go_frame
   refine Qw 7 (fun K hK=> ?_)
   go_simp
   have HP:=HX;have hzp:=HX.out.ls;rw [show IntKind.i64.wrap (1+z)=1+z from IntWalk.i64_in _ (by omega)];refine (Oj b (w.heap.size+2) _ v (.slice Ar L.length cr) l L (1+z) _ HX.out.cur HX.out.stays (by have:=HX.out.bg;have:=HX.out.gg;omega) (Fu _) HX.out.dr (fun _=> by omega) (by omega) (by omega) (by omega)).mono ?_;rintro e X2 ⟨r,rfl,hdr,hst,hgo,hcu⟩;obtain ⟨A1,c1,e1, -⟩:=hst.now.b.open_;obtain ⟨A2,c2,e2, -⟩:=Sl.one hst.now.n;obtain ⟨A3,c3,e3, -⟩:=Sl.one hst.now.t;obtain ⟨A4,c4,e4, -⟩:=Sl.one hst.now.k;have HM:=Fs (Ft hdr (Ft hst (Ft hgo hcu)));have HX:=Fs (HX.out.step hgo hcu);clear hdr hst hgo hcu;have HE:=Fs (Ft e1 (Ft e2 (Ft e3 e4)));unfold Ja;rw [e1,e2,e3,e4];clear e1 e2 e3 e4
   (try go_wp2_with fail)
   refine hK.out _ _ ?_ (fun hHeld=> ?_)
   ·(try dsimp only);first|exact hk0|exact HX.out.box.cell 0 rfl
   clear hK K
   try go_frame
   refine Qw 8 (fun K hK=> ?_)
   (try go_simp)
   obtain ⟨X3,hX3⟩:∃V,V=X2.alloc (.cells #[.string r.d.name, .int .i64 r.d.kind, .int .i64 r.d.size, .bool r.d.little, .slice A1 r.d.bytes.length c1, .slice A2 r.d.names.length c2, .slice A3 r.d.tags.length c3, .slice A4 r.d.kids.length c4] 50):=⟨_,rfl⟩;rw [←hX3];have hal:Below X2.heap.size X2 X3:=(by rw [hX3];exact (Fv _ _).alloc (Fu _) _);have hsl:=Fs (show Sl X3 (X2.heap.size+1) 8 (.slice (some ⟨X2.heap.size,0,none⟩) 1 1) 1 (Qq r) by rw [hX3];exact Tj (xs:=Qq r) (by unfold Qq;rw [HE.out.1,HE.out.2.1,HE.out.2.2.1,HE.out.2.2.2];exact Zo.new X2 _ _) rfl (Nat.lt_succ_self _));have HX:=Fs (HX.out.below hal);have HA:=Fs hal;clear hX3 hal
   refine hK.out _ _ ?_ (fun hHeld=> ?_)
   ·(try dsimp only);first|exact hk0|exact HX.out.box.cell 0 rfl
   clear hK K
   try go_frame
   refine Qw 9 (fun K hK=> ?_)
   have hone:∀u∈Qq r,u.oneCell'=true:=(by intro u hu;unfold Qq at hu;rw [HE.out.1,HE.out.2.1,HE.out.2.2.1,HE.out.2.2.2] at hu;simp only [List.mem_cons,List.not_mem_nil,or_false] at hu;rcases hu with rfl|rfl|rfl|rfl|rfl|rfl|rfl|rfl <;> rfl);refine Je _ (.tmp 21) (.tmp 28) 24 rfl (w.heap.size+2) 50 i0 (.agg #[.string ⟨#[]⟩, .int .i64 0, .int .i64 0, .bool false, .slice none 0 0, .slice none 0 0, .slice none 0 0, .slice none 0 0]) 8 136 underlying24 hi hz0 hz1 hz2 rfl (by decide) _ L.length (L.flatMap Qq) rfl (by exact HX.out.dg.row) _ 1 _ (Qq r) rfl (by exact hsl.out) hone (by omega) (by unfold maxLen;omega) HX.out.ls ?_;intro v2 X6 own2 hg2 hv2;obtain ⟨An,cn,rfl⟩:=Zq own2;have HM:=Fs (HP.out.app HM.out.1 HM.out.2.1 HM.out.2.2.1 HM.out.2.2.2 HA.out own2 hg2 hv2);clear own2 hg2 hv2 hone;have hk0:X6.cell? ⟨w.heap.size+1,0,none⟩=some (.slice Ar L.length cr):=HM.out.1.cell 0 rfl;have hf0:=HM.out.1.frozen 0
   refine hK.out _ _ ?_ (fun hHeld=> ?_)
   ·(try dsimp only);first|exact hk0|exact HX.out.box.cell 0 rfl
   clear hK K
   try go_frame
   refine Zt 10 (some 30) hHeld _ ?_;try go_frame
   refine Uz (fun K hK=> ?_)
   (try go_simp)
   refine hK.out _ _ ?_
   clear hK K
   try go_frame
   refine Js (by kernel_rfl) ?_ _
   obtain ⟨X7,hX7⟩:∃V,V=X6.setCell ⟨w.heap.size+1,0,none⟩ (.slice An (L.length+1) cn):=⟨_,rfl⟩
   rw [←hX7]
   have HY:=Fs (by rw [hX7];simpa using HM.out.2:Hh b v l W0 (w.heap.size+2) (w.heap.size+1) (.slice An (L++ [r]).length cn) (L++ [r]) X7)
   clear hX7 HM hk0 hf0 HX HP HA hsl HE
   go_wp2
   go_roundw
   case rel=> exact ⟨k - 1,_,_,L++ [r],by congr 1;go_num,by simp;omega,by simp,HY.out⟩
   case measure=> simp [intOf];omega
end Go.Proofs.YteldgdelmaeokaaGreatDoor
