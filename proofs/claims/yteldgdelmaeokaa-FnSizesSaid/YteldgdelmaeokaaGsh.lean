/- Out of DrVal, EncW: the walks and plain laws that the claim needs. No condition but those that each theorem names. -/
import Derived.Test.YteldgdelmaeokaaGdc
import Derived.Test.YteldgdelmaeokaaGde
import Derived.Test.YteldgdelmaeokaaGda
import Derived.IntWalk
import Derived.WalkSpells
import Derived.WalkLawsBesides
import Derived.Deep.RegionHeld3
import Derived.Deep.DeepCutAuto
import Derived.Test.YteldgdelmaeokaaGsg
import Derived.Test.YteldgdelmaeokaaGh
set_option linter.unusedSimpArgs false
set_option linter.unusedVariables false
namespace Go.Proofs.Yteldgdelmaeokaa
open Go.RowKit
set_option maxHeartbeats 400000 in
theorem l1Size_any (v:Value) (l:List UInt8) (B:Nat) (w:World) (h:SlB w B v l) (hl:l.length≤1048576):
  Calls Try.prog 14 #[v, .int .i64 8] w fun e w'=> (∃m:Nat,e= .returned (.int .i64 m)∧m≤8)∧w=w':=by
 obtain ⟨A,c,rfl,hc,hm,hcell⟩:=h.open_
 unfold maxLen at hm
 clear h hcell
 have hq2:(l.length:Int) / 12=((l.length / 12:Nat):Int):=by omega
 generalize hn:l.length / 12=n at*
 have hn2:n≤1048576:=by omega
 by_cases h8:n≤5
 ·have hd:decide ((8:Int) < 3+(n:Int))=false:=decide_eq_false (by omega)
  clear hn
  go_enter Try.func14,Try.ntmps14
  go_wp2
  go_ret
  exact ⟨⟨3+n,by congr 2,by omega⟩,rfl⟩
 ·have hd:decide ((8:Int) < 3+(n:Int))=true:=decide_eq_true (by omega)
  clear hn
  go_enter Try.func14,Try.ntmps14
  go_wp2
  go_ret
  exact ⟨⟨8,rfl,by omega⟩,rfl⟩
def DrawVE (w:World) (e:Ending) (w':World):Prop:=
 ∃(A:Option Addr) (c:Nat) (L:List RM) (x:VM),e= .returned (.tuple #[.agg #[.slice A L.length c],vmV x])∧DrD (L.map RM.d)∧1≤L.length∧L.length≤6∧validV (L.map RM.d) (L.length - 1:Nat) x.d=true∧x.d.size≤589824∧SlD w' w'.heap.size (.slice A L.length c) L∧x.own w.heap.size w'∧Below w.heap.size w w'
set_option maxHeartbeats 4000000 in
set_option maxRecDepth 100000 in
theorem drawValue_any (v:Value) (l:List UInt8) (w:World) (h:SlB w w.heap.size v l) (hl:l.length≤1048576):Calls Try.prog 5 #[v] w (DrawVE w):=by
 obtain ⟨W0,hW0⟩:∃W0,W0=(w.alloc (.cells #[.slice none 0 0] 26)).alloc (.cells #[.int .i64 0, .slice none 0 0, .slice none 0 0] 29):=⟨_,rfl⟩
 have hb0:Below w.heap.size w W0:=by rw [hW0];exact ((Below.refl w.heap.size w).alloc (Nat.le_refl _) _).alloc (by simp) _
 have hz0:w.heap.size+2≤W0.heap.size:=by rw [hW0];simp
 have R0:Blk W0 w.heap.size 26 #[.slice none 0 0]:=by rw [hW0];exact (Blk.new w _ _).alloc _
 have Q0:Blk W0 (w.heap.size+1) 29 #[.int .i64 0, .slice none 0 0, .slice none 0 0]:=by rw [hW0];have:=Blk.new (w.alloc (.cells #[.slice none 0 0] 26)) 29 #[.int .i64 0, .slice none 0 0, .slice none 0 0];simpa using this
 have H0:=Lib.hid (And.intro (h.below hb0) (And.intro hb0 (And.intro R0 Q0)))
 clear h hb0 R0 Q0
 go_enter Try.func5,Try.ntmps5
 go_upto_region 1 with fail
 rw [←hW0]
 clear hW0
 go_wp2_with fail
 refine (l1New_any v l w.heap.size W0 H0.out.1 hl).mono ?_
 rintro e w1 ⟨rfl,xc,rfl⟩
 obtain ⟨W1,hW1⟩:∃W1,W1=W0.alloc (.cells #[v, .int .i64 0, .int .i64 xc] 51):=⟨_,rfl⟩
 rw [←hW1]
 have h01:Below W0.heap.size W0 W1:=by rw [hW1];exact (Below.refl _ _).alloc (Nat.le_refl _) _
 have hc1:CurW W0.heap.size v l W1:=by rw [hW1];exact ⟨(SlB.more (B':=W0.heap.size) H0.out.1 (by omega)).below ((Below.refl _ _).alloc (Nat.le_refl _) _),cur_new⟩
 have H1:=Lib.hid (And.intro hc1 (And.intro (below_step h01 H0.out.2.1) (And.intro (H0.out.2.2.1.below h01) (H0.out.2.2.2.below h01))))
 have hz1:W0.heap.size < W1.heap.size:=hc1.lt
 clear hW1 h01 hc1 H0
 go_wp2_with fail
 refine (l4Description_any W0.heap.size v l W1 H1.out.1).mono ?_
 rintro e w2 ⟨A,c,L,rfl,hdr,hl1,hl6,hdg,hgo,hcu⟩
 have hz2:=hgo.size
 obtain ⟨W3,hW3⟩:∃W3,W3=w2.alloc (.cells #[.slice A L.length c] 26):=⟨_,rfl⟩
 have h23:Below w2.heap.size w2 W3:=by rw [hW3];exact (Below.refl _ _).alloc (Nat.le_refl _) _
 have D3:Blk W3 w2.heap.size 26 #[.slice A L.length c]:=by rw [hW3];exact Blk.new w2 _ _
 have hz3:w2.heap.size < W3.heap.size:=D3.lt
 have hgo3:=hgo.trans (GoB.of_below h23)
 have HS3:=Lib.hid (hdg.stays.below h23)
 have H3:=Lib.hid (And.intro (hcu.below h23) (And.intro (hgo3.below H1.out.2.1 (by have:=H1.out.2.1.size;omega) (by omega)) (And.intro (H1.out.2.2.1.go hgo3 (by omega)) (And.intro (H1.out.2.2.2.go hgo3 (by omega)) D3))))
 have hlm:(L.map RM.d).length=L.length:=List.length_map ..
 have HDR:=Lib.hid hdr
 have hl1w:IntKind.i64.wrap ((L.length:Int) - 1)=((L.length - 1:Nat):Int):=by rw [IntWalk.i64_in _ (by omega)];omega
 have s0:W3.cell? ⟨w2.heap.size,0,none⟩=some (.slice A L.length c):=D3.cell 0 rfl
 have r0:W3.cell? ⟨w.heap.size,0,none⟩=some (.slice none 0 0):=H3.out.2.2.1.cell 0 rfl
 have rf:W3.frozen? ⟨w.heap.size,0,none⟩=false:=H3.out.2.2.1.frozen 0
 clear hdg hgo hcu h23 D3 hgo3 hdr H1
 go_upto_region 3 with fail
 rw [←hW3]
 clear hW3
 refine wp_region_held_drew (S:=(fun w9=> w9.cell? ⟨w2.heap.size,0,none⟩=some (.slice A L.length c))) (by kernel_rfl) ?_ (fun hHeld=> ?_)
 ·(try dsimp only);exact s0
 refine rgTake 0 (some 10) hHeld _ ?_;try go_frame
 refine rgTake 1 (some 11) hHeld _ ?_;try go_frame
 refine rgTake 2 (some 12) hHeld _ ?_;try go_frame
 refine rgTake 3 (some 13) hHeld _ ?_;try go_frame
 refine rgTake 4 (some 14) hHeld _ ?_;try go_frame
 refine rgTake 5 (some 15) hHeld _ ?_;try go_frame
 refine rgTake 6 (some 16) hHeld _ ?_;try go_frame
 refine rgTake 7 (some 17) hHeld _ ?_;try go_frame
 refine rgStep 8 (fun K hK=> ?_)
 go_simp
 refine (l1Size_any v l W0.heap.size W3.drew H3.out.1.sl hl).mono ?_;rintro e w4 ⟨⟨m,rfl,hm8⟩,rfl⟩;have k0:=s0
 (try go_wp2_with fail)
 refine hK.out _ _ ?_ (fun hHeld=> ?_)
 ·(try dsimp only);exact k0
 clear hK K
 try go_frame
 refine rgTake 9 (some 19) hHeld _ ?_;try go_frame
 refine rgStep 10 (fun K hK=> ?_)
 go_simp
 rw [show IntKind.i64.wrap (4+(m:Int))=((4+m:Nat):Int) from by rw [IntWalk.i64_in _ (by omega)];omega];refine (l9Make_any W0.heap.size (W1.heap.size+2) w2.heap.size v _ l L (L.length - 1) (4+m) W3.drew H3.out.1.drew (HS3.out.step (Nat.le_refl _) fun _ _ _=> rfl) (by omega) (by have:=hz3;show _≤W3.heap.size;omega) HDR.out (by omega) (by omega) (by omega)).mono ?_;rintro e w4 ⟨x,rfl,hxv,hxs,hxo,hgo4,hcu4⟩;obtain ⟨A5,c5,e5⟩:=own_slice hxo.own.bytes;obtain ⟨A6,c6,e6⟩:=own_slice hxo.own.row;have hz4:W3.heap.size≤w4.heap.size:=hgo4.size;have hgoq:GoB W0.heap.size W3 w4:=⟨hgo4.os,hgo4.tape,hgo4.output,hgo4.size,hgo4.block⟩;have H4:=Lib.hid (And.intro (hgoq.below H3.out.2.1 (by have:=H3.out.2.1.size;omega) (by omega)) (And.intro (H3.out.2.2.1.go hgoq (by omega)) (And.intro (H3.out.2.2.2.1.go hgoq (by omega)) (And.intro (H3.out.2.2.2.2.go hgoq (by omega)) (And.intro (HS3.out.go hgoq (by omega)) (And.intro hxo (And.intro hxv hxs)))))));have HE5:=Lib.hid (And.intro e5 e6);unfold vmV;rw [e5,e6];clear k0 r0 rf hxo hgo4 hcu4 hgoq hxv e5 e6;have k0:w4.cell? ⟨w2.heap.size,0,none⟩=some (.slice A L.length c):=H4.out.2.2.2.1.cell 0 rfl;have r0:w4.cell? ⟨w.heap.size,0,none⟩=some (.slice none 0 0):=H4.out.2.1.cell 0 rfl;have rf:w4.frozen? ⟨w.heap.size,0,none⟩=false:=H4.out.2.1.frozen 0
 (try go_wp2_with fail)
 refine hK.out _ _ ?_ (fun hHeld=> ?_)
 ·(try dsimp only);exact k0
 clear hK K
 try go_frame
 refine rgStep 11 (fun K hK=> ?_)
 (try go_simp)
 obtain ⟨Y1,hY⟩:∃V,V=w4.setCell ⟨w.heap.size,0,none⟩ (.slice A L.length c):=⟨_,rfl⟩;rw [←hY];have kd:Blk Y1 w2.heap.size 26 #[.slice A L.length c]:=(by rw [hY];exact H4.out.2.2.2.1.other (by omega) _);have kr:Blk Y1 w.heap.size 26 #[.slice A L.length c]:=(by rw [hY];have:=H4.out.2.1.set 0 (.slice A L.length c);simpa using this);have kq:Blk Y1 (w.heap.size+1) 29 #[.int .i64 0, .slice none 0 0, .slice none 0 0]:=(by rw [hY];exact H4.out.2.2.1.other (by omega) _);have HY1:=Lib.hid hY;clear hY k0 r0 rf;have k0:Y1.cell? ⟨w2.heap.size,0,none⟩=some (.slice A L.length c):=kd.cell 0 rfl;obtain ⟨⟨p0,p1,p2⟩,g0,g1,g2⟩:=kq.c3
 refine hK.out _ _ ?_ (fun hHeld=> ?_)
 ·(try dsimp only);exact k0
 clear hK K
 try go_frame
 refine rgStep 12 (fun K hK=> ?_)
 (try go_simp)
 obtain ⟨Y2,hY⟩:∃V,V=((Y1.setCell ⟨w.heap.size+1,0,none⟩ (.int .i64 x.n)).setCell ⟨w.heap.size+1,1,none⟩ (.slice A5 x.b.length c5)).setCell ⟨w.heap.size+1,2,none⟩ (.slice A6 x.items.length c6):=⟨_,rfl⟩;rw [←hY];have kd2:Blk Y2 w2.heap.size 26 #[.slice A L.length c]:=(by rw [hY];exact ((kd.other (by omega) _).other (by omega) _).other (by omega) _);have kr2:Blk Y2 w.heap.size 26 #[.slice A L.length c]:=(by rw [hY];exact ((kr.other (by omega) _).other (by omega) _).other (by omega) _);have kq2:Blk Y2 (w.heap.size+1) 29 #[.int .i64 x.n, .slice A5 x.b.length c5, .slice A6 x.items.length c6]:=(by rw [hY];have:=((kq.set 0 (.int .i64 x.n)).set 1 (.slice A5 x.b.length c5)).set 2 (.slice A6 x.items.length c6);simpa using this);have HY2:=Lib.hid hY;clear hY k0 p0 p1 p2 g0 g1 g2 kd kr kq;have k0:Y2.cell? ⟨w2.heap.size,0,none⟩=some (.slice A L.length c):=kd2.cell 0 rfl
 refine hK.out _ _ ?_ (fun hHeld=> ?_)
 ·(try dsimp only);exact k0
 clear hK K
 try go_frame
 refine wpAnyH_done (by kernel_rfl) ?_ _
 have t0:Y2.cell? ⟨w.heap.size,0,none⟩=some (.slice A L.length c):=kr2.cell 0 rfl
 obtain ⟨⟨t1,t2,t3⟩, -⟩:=kq2.c3
 have hset:∀q,q≠w.heap.size→q≠w.heap.size+1→Y2.heap[q]?=w4.heap[q]?:=fun q h1 h2=> by rw [HY2.out,HY1.out,Below.heap_setCell _ _ _ q h2,Below.heap_setCell _ _ _ q h2,Below.heap_setCell _ _ _ q h2,Below.heap_setCell _ _ _ q h1]
 have hsz:Y2.heap.size=w4.heap.size:=by rw [HY2.out,HY1.out];simp [World.setCell]
 have hsd:SlD Y2 Y2.heap.size (.slice A L.length c) L:=(H4.out.2.2.2.2.1.2 Y2 (by omega) fun k h1 h2=> hset k (by omega) (by omega)).more (by omega)
 have hz43:(W3.drew).heap.size=W3.heap.size:=rfl
 have hxw:x.own w.heap.size Y2:=(H4.out.2.2.2.2.2.1.own.keep fun q hq=> by have:=(H4.out.2.2.2.2.2.1.own.lt q hq).1;exact hset q (by omega) (by omega)).base (by omega)
 have hbf:Below w.heap.size w Y2:=by
  rw [HY2.out,HY1.out]
  have h1:=H4.out.1.setCell (p:=⟨w.heap.size,0,none⟩) (Nat.le_refl _) (.slice A L.length c)
  have h2:=h1.setCell (p:=⟨w.heap.size+1,0,none⟩) (by show w.heap.size≤w.heap.size+1;omega) (.int .i64 x.n)
  have h3:=h2.setCell (p:=⟨w.heap.size+1,1,none⟩) (by show w.heap.size≤w.heap.size+1;omega) (.slice A5 x.b.length c5)
  exact h3.setCell (p:=⟨w.heap.size+1,2,none⟩) (by show w.heap.size≤w.heap.size+1;omega) (.slice A6 x.items.length c6)
 have hsb:=sB_bd (k:=L.length - 1) (by omega)
 have HF:=Lib.hid (And.intro hsd (And.intro hxw hbf))
 clear hsd hxw hbf hset k0 kd2 kr2 kq2 hHeld
 go_wp2
 exact bodyPost_ret (v:= .tuple #[.agg #[.slice A L.length c], .agg #[.int .i64 x.n, .slice A5 x.b.length c5, .slice A6 x.items.length c6]]) (by simp [results,Try.results5,go_sem,t0,t1,t2,t3]) rfl
  ⟨A,c,L,x,by unfold vmV;rw [HE5.out.1,HE5.out.2],HDR.out,hl1,hl6,H4.out.2.2.2.2.2.2.1,by omega,HF.out⟩
end Go.Proofs.Yteldgdelmaeokaa
namespace Go.Proofs.Yteldgdelmaeokaa
open Go.RowKit
def PvE (n:Int) (w:World) (e:Ending) (w':World):Prop:=∃(A:Option Addr) (m c:Nat),e= .returned (.tuple #[.slice A m c, .bool (decide (n≤400))])∧(n≤400→(m:Int)=n)∧m≤2000000000∧Below w.heap.size w w'
set_option maxHeartbeats 4000000 in
set_option maxRecDepth 100000 in
theorem printValue_any (vD:Value) (L:List RM) (k:Nat) (x:VM) (B:Nat) (w:World) (h:SlD w B vD L) (hB:B≤w.heap.size) (ok:∀r∈L,r.d.ok) (sm:∀r∈L,r.d.small 1048576) (hv:validD (L.map RM.d)=true) (hk:k < L.length) (hvx:validV (L.map RM.d) k x.d=true) (hx:x.rd w B) (hs:x.d.size≤1048576):
  Calls Try.prog 15 #[.agg #[vD], .int .i64 k,vmV x] w (PvE (lenV (L.map RM.d) k x.d) w):=by
 have hlm:(L.map RM.d).length=L.length:=List.length_map ..
 have hkn:knownD (L.map RM.d) k=true:=by
  unfold knownD
  rw [hv,Bool.and_true]
  exact inB_iff.2 (by omega)
 have hV:∀W,Below w.heap.size w W→Calls Try.prog 28 #[.agg #[vD], .int .i64 k,vmV x] W fun e w'=> e= .returned (.bool true)∧Below W.heap.size W w':=fun W hb=> by
  have:=specValidValue_any vD L k x B W (h.below (hb.mono hB)) (by have:=hb.size;omega) ok sm (hx.bel (hb.mono hB)) (by omega)
  rw [hkn,hvx] at this
  exact this
 have hP:∀W,Below w.heap.size w W→Calls Try.prog 29 #[.agg #[vD], .int .i64 k,vmV x] W (MadeN (lenV (L.map RM.d) k x.d).toNat W):=fun W hb=>
  l11Print_any L ok sm hv k hk vD x B W (h.below (hb.mono hB)) (by have:=hb.size;omega) hvx (hx.bel (hb.mono hB)) hs
 have hl0:0≤lenV (L.map RM.d) k x.d:=by
  have e2:=(len_all hv L.length (by rw [hlm];omega)).lo k hk _ hvx
  have e3:=(at0_bd (mins_bd hv L.length (by rw [hlm];omega)) (by omega) (k:Int)).1
  omega
 have hl1:lenV (L.map RM.d) k x.d≤2000000000:=by
  have e1:=lenV_le hv L.length (by rw [hlm];omega) k hk _ hvx
  omega
 obtain ⟨A,c,rfl,hc,hm, -⟩:=h.open_
 obtain ⟨Ax,cx,ex, -⟩:=hx.bytes.open_
 obtain ⟨Ay,cy,ey, -⟩:=hx.its.open_
 unfold vmV at hV hP ⊢
 rw [ex,ey] at hV hP ⊢
 have HV:=Lib.hid hV
 have HP:=Lib.hid hP
 clear hV hP h hx hvx ok sm hv hkn ex ey hlm
 generalize lenV (L.map RM.d) k x.d=n at*
 obtain ⟨W0,hW0⟩:∃W0,W0=(w.alloc (.cells #[.slice A L.length c] 26)).alloc (.cells #[.int .i64 x.n, .slice Ax x.b.length cx, .slice Ay x.items.length cy] 29):=⟨_,rfl⟩
 have hb0:Below w.heap.size w W0:=by rw [hW0];exact ((Below.refl w.heap.size w).alloc (Nat.le_refl _) _).alloc (by simp) _
 have Kd:Blk W0 w.heap.size 26 #[.slice A L.length c]:=by rw [hW0];exact (Blk.new w _ _).alloc _
 have Kv:Blk W0 (w.heap.size+1) 29 #[.int .i64 x.n, .slice Ax x.b.length cx, .slice Ay x.items.length cy]:=by rw [hW0];have:=Blk.new (w.alloc (.cells #[.slice A L.length c] 26)) 29 #[.int .i64 x.n, .slice Ax x.b.length cx, .slice Ay x.items.length cy];simpa using this
 have s0:W0.cell? ⟨w.heap.size,0,none⟩=some (.slice A L.length c):=Kd.cell 0 rfl
 obtain ⟨⟨v0,v1,v2⟩, -⟩:=Kv.c3
 have HKD:=Lib.hid Kd
 have HKV:=Lib.hid Kv
 have HB0:=Lib.hid hb0
 clear Kd Kv hb0
 go_enter Try.func15,Try.ntmps15
 go_upto_region 1 with fail
 rw [←hW0]
 clear hW0
 go_wp2_with fail
 refine (HV.out W0 HB0.out).mono ?_
 rintro e w1 ⟨rfl,bel1⟩
 have hb1:=below_step bel1 HB0.out
 have s0:w1.cell? ⟨w.heap.size,0,none⟩=some (.slice A L.length c):=(HKD.out.below bel1).cell 0 rfl
 obtain ⟨⟨v0,v1,v2⟩, -⟩:=(HKV.out.below bel1).c3
 have HB1:=Lib.hid hb1
 clear bel1 hb1
 go_wp2_with fail
 refine (HP.out w1 HB1.out).mono ?_
 rintro e w2 ⟨u,ys,rfl,hyl,own,bel2⟩
 obtain ⟨A9,c9,rfl⟩:=own_slice own
 have hb2:=below_step bel2 HB1.out
 have HB2:=Lib.hid hb2
 have HYL:=Lib.hid hyl
 have hy9:ys.length≤2000000000:=by omega
 clear own bel2 hb2 hyl
 by_cases hle:n≤400
 ·have hn:ys.length≤400:=by have:=HYL.out;omega
  have HD:Hid (decide (n≤400)=true):=Lib.hid (decide_eq_true hle)
  go_wp2
  go_ret2
  exact ⟨A9,ys.length,c9,by rw [HD.out];rfl,fun _=> by have:=HYL.out;omega,hy9,HB2.out⟩
 ·have hn:400 < ys.length:=by have:=HYL.out;omega
  have HD:Hid (decide (n≤400)=false):=Lib.hid (decide_eq_false hle)
  go_wp2
  go_ret2
  exact ⟨_,_,_,by rw [HD.out];rfl,fun h=> by omega,by omega,HB2.out.alloc HB2.out.size _⟩
set_option maxHeartbeats 4000000 in
set_option maxRecDepth 100000 in
theorem encLen_any (vD:Value) (L:List RM) (k:Nat) (x:VM) (B:Nat) (w:World) (h:SlD w B vD L) (hB:B≤w.heap.size) (ok:∀r∈L,r.d.ok) (sm:∀r∈L,r.d.small 1048576) (hv:validD (L.map RM.d)=true) (hk:k < L.length) (hvx:validV (L.map RM.d) k x.d=true) (hx:x.rd w B) (hs:x.d.size≤1048576):
  Calls Try.prog 6 #[.agg #[vD], .int .i64 k,vmV x] w fun e w'=> e= .returned (.int .i64 (encN (L.map RM.d) k x.d))∧Below w.heap.size w w':=by
 have hP:∀W,Below w.heap.size w W→Calls Try.prog 15 #[.agg #[vD], .int .i64 k,vmV x] W (PvE (lenV (L.map RM.d) k x.d) W):=fun W hb=>
  printValue_any vD L k x B W (h.below (hb.mono hB)) (by have:=hb.size;omega) ok sm hv hk hvx (hx.bel (hb.mono hB)) hs
 have hE:encN (L.map RM.d) k x.d=if lenV (L.map RM.d) k x.d≤400 then lenV (L.map RM.d) k x.d else -1:=rfl
 obtain ⟨A,c,rfl,hc,hm, -⟩:=h.open_
 obtain ⟨Ax,cx,ex, -⟩:=hx.bytes.open_
 obtain ⟨Ay,cy,ey, -⟩:=hx.its.open_
 unfold vmV at hP ⊢
 rw [ex,ey] at hP ⊢
 have HP:=Lib.hid hP
 have HE:=Lib.hid hE
 clear hP hE h hx hvx ok sm hv ex ey
 generalize encN (L.map RM.d) k x.d=z at*
 generalize lenV (L.map RM.d) k x.d=n at*
 obtain ⟨W0,hW0⟩:∃W0,W0=(w.alloc (.cells #[.slice A L.length c] 26)).alloc (.cells #[.int .i64 x.n, .slice Ax x.b.length cx, .slice Ay x.items.length cy] 29):=⟨_,rfl⟩
 have hb0:Below w.heap.size w W0:=by rw [hW0];exact ((Below.refl w.heap.size w).alloc (Nat.le_refl _) _).alloc (by simp) _
 have Kd:Blk W0 w.heap.size 26 #[.slice A L.length c]:=by rw [hW0];exact (Blk.new w _ _).alloc _
 have Kv:Blk W0 (w.heap.size+1) 29 #[.int .i64 x.n, .slice Ax x.b.length cx, .slice Ay x.items.length cy]:=by rw [hW0];have:=Blk.new (w.alloc (.cells #[.slice A L.length c] 26)) 29 #[.int .i64 x.n, .slice Ax x.b.length cx, .slice Ay x.items.length cy];simpa using this
 have s0:W0.cell? ⟨w.heap.size,0,none⟩=some (.slice A L.length c):=Kd.cell 0 rfl
 obtain ⟨⟨v0,v1,v2⟩, -⟩:=Kv.c3
 have HB0:=Lib.hid hb0
 clear Kd Kv hb0
 go_enter Try.func6,Try.ntmps6
 go_upto_region 1 with fail
 rw [←hW0]
 clear hW0
 go_wp2_with fail
 refine (HP.out W0 HB0.out).mono ?_
 rintro e w1 ⟨A9,m,c9,rfl,hmn,hm2,bel1⟩
 have HB1:=Lib.hid (below_step bel1 HB0.out)
 have HM:=Lib.hid hmn
 clear bel1 hmn
 by_cases hle:n≤400
 ·rw [decide_eq_true hle]
  go_wp2
  go_ret
  exact ⟨ret_int (by rw [HE.out,if_pos hle,HM.out hle]),HB1.out⟩
 ·rw [decide_eq_false hle]
  go_wp2
  go_ret
  exact ⟨ret_int (by rw [HE.out,if_neg (by omega)]),HB1.out⟩
end Go.Proofs.Yteldgdelmaeokaa
