/- Out of Dfm, Dfn, DrX, IxP: the walks and plain laws that the claim needs. No condition but those that each theorem names. -/
import Derived.Test.YteldgdelmaeokaaDoorGlk
import Derived.Test.YteldgdelmaeokaaDoorGlb
import Derived.Test.YteldgdelmaeokaaDoorGlf
import Derived.Test.YteldgdelmaeokaaDoorGlh
import Derived.IntWalk
import Derived.WalkSpells
import Derived.WalkLawsBesides
import Derived.Deep.RegionHeld3
import Derived.Deep.DeepCutAuto
import Derived.Test.YteldgdelmaeokaaDoorGlg
set_option linter.unusedSimpArgs false
set_option linter.unusedVariables false
namespace Go.Proofs.YteldgdelmaeokaaDoor
open Go.RowKit
def SmB (w:World) (e:Ending) (w':World):Prop:=∃(u:Value) (ys:List UInt8) (ok:Bool),e= .returned (.tuple #[u, .bool ok])∧ys.length≤400∧w'.ownsRow w.heap.size 5 1 u ys.length (u8s ys)∧Below w.heap.size w w'
theorem SmB.empty {w W:World} (h:Below w.heap.size w W):∃ys:List UInt8,ys.length≤400∧(W.alloc (.cells #[] 5)).ownsRow w.heap.size 5 1 (.slice (some ⟨W.heap.size,0,none⟩) 0 0) ys.length (u8s ys)∧Below w.heap.size w (W.alloc (.cells #[] 5)):=
 ⟨[],by simp,own_base (own_empty W _ _) h.size,h.alloc h.size _⟩
set_option maxHeartbeats 4000000 in
set_option maxRecDepth 100000 in
theorem printAny_any (vD:Value) (L:List RM) (k:Nat) (x:VM) (B:Nat) (w:World) (h:SlD w B vD L) (hB:B≤w.heap.size) (ok:∀r∈L,r.d.ok) (sm:∀r∈L,r.d.small 1048576) (hv:validD (L.map RM.d)=true) (hk:k < L.length) (hx:x.rd w B) (hs:x.d.size≤1048576):
  Calls Tryd.prog 101 #[.agg #[vD], .int .i64 k,vmV x] w (SmB w):=by
 have hlm:(L.map RM.d).length=L.length:=List.length_map ..
 have hkn:knownD (L.map RM.d) k=true:=by
  unfold knownD
  rw [hv,Bool.and_true]
  exact inB_iff.2 (by omega)
 have hV:∀W,Below w.heap.size w W→Calls Tryd.prog 12 #[.agg #[vD], .int .i64 k,vmV x] W fun e w'=> e= .returned (.bool (validV (L.map RM.d) k x.d))∧Below W.heap.size W w':=fun W hb=> by
  have:=specValidValue_any vD L k x B W (h.below (hb.mono hB)) (by have:=hb.size;omega) ok sm (hx.bel (hb.mono hB)) (by omega)
  rw [hkn,Bool.true_and] at this
  exact this
 have hP:validV (L.map RM.d) k x.d=true→∀W,Below w.heap.size w W→Calls Tryd.prog 54 #[.agg #[vD], .int .i64 k,vmV x] W (MadeN (lenV (L.map RM.d) k x.d).toNat W):=fun hvx W hb=>
  l11Print_any L ok sm hv k hk vD x B W (h.below (hb.mono hB)) (by have:=hb.size;omega) hvx (hx.bel (hb.mono hB)) hs
 have hl1:validV (L.map RM.d) k x.d=true→lenV (L.map RM.d) k x.d≤2000000000:=fun hvx=> by
  have e1:=lenV_le hv L.length (by rw [hlm];omega) k hk _ hvx
  omega
 obtain ⟨A,c,rfl,hc,hm, -⟩:=h.open_
 obtain ⟨Ax,cx,ex, -⟩:=hx.bytes.open_
 obtain ⟨Ay,cy,ey, -⟩:=hx.its.open_
 unfold vmV at hV hP ⊢
 rw [ex,ey] at hV hP ⊢
 have HV:=Lib.hid hV
 have HP:=Lib.hid hP
 have HL:=Lib.hid hl1
 clear hV hP hl1 h hx ok sm hv hkn ex ey hlm
 generalize lenV (L.map RM.d) k x.d=n at*
 generalize hvb:validV (L.map RM.d) k x.d=vb at*
 obtain ⟨W0,hW0⟩:∃W0,W0=(w.alloc (.cells #[.slice A L.length c] 26)).alloc (.cells #[.int .i64 x.n, .slice Ax x.b.length cx, .slice Ay x.items.length cy] 29):=⟨_,rfl⟩
 have hb0:Below w.heap.size w W0:=by rw [hW0];exact ((Below.refl w.heap.size w).alloc (Nat.le_refl _) _).alloc (by simp) _
 have Kd:Blk W0 w.heap.size 26 #[.slice A L.length c]:=by rw [hW0];exact (Blk.new w _ _).alloc _
 have Kv:Blk W0 (w.heap.size+1) 29 #[.int .i64 x.n, .slice Ax x.b.length cx, .slice Ay x.items.length cy]:=by rw [hW0];have:=Blk.new (w.alloc (.cells #[.slice A L.length c] 26)) 29 #[.int .i64 x.n, .slice Ax x.b.length cx, .slice Ay x.items.length cy];simpa using this
 have s0:W0.cell? ⟨w.heap.size,0,none⟩=some (.slice A L.length c):=Kd.cell 0 rfl
 obtain ⟨⟨v0,v1,v2⟩, -⟩:=Kv.c3
 have HKD:=Lib.hid Kd
 have HKV:=Lib.hid Kv
 have HB0:=Lib.hid hb0
 clear Kd Kv hb0 hvb
 cases vb
 ·go_enter Tryd.func101,Tryd.ntmps101
  go_upto_region 1 with fail
  rw [←hW0]
  clear hW0
  go_wp2_with fail
  refine (HV.out W0 HB0.out).mono ?_
  rintro e w1 ⟨rfl,bel1⟩
  obtain ⟨ys,h1,h2,h3⟩:=SmB.empty (below_step bel1 HB0.out)
  have HF:=Lib.hid (And.intro h1 (And.intro h2 h3))
  clear bel1 h1 h2 h3
  go_wp2
  go_ret2
  exact ⟨_,ys,false,rfl,HF.out.1,HF.out.2.1,HF.out.2.2⟩
 ·have HP2:=Lib.hid (HP.out rfl)
  have hl2:=HL.out rfl
  go_enter Tryd.func101,Tryd.ntmps101
  go_upto_region 1 with fail
  rw [←hW0]
  clear hW0
  go_wp2_with fail
  refine (HV.out W0 HB0.out).mono ?_
  rintro e w1 ⟨rfl,bel1⟩
  have hb1:=below_step bel1 HB0.out
  have s0:w1.cell? ⟨w.heap.size,0,none⟩=some (.slice A L.length c):=(HKD.out.below bel1).cell 0 rfl
  obtain ⟨⟨v0,v1,v2⟩, -⟩:=(HKV.out.below bel1).c3
  have HB1:=Lib.hid hb1
  clear bel1 hb1
  go_wp2_with fail
  refine (HP2.out w1 HB1.out).mono ?_
  rintro e w2 ⟨u,ys,rfl,hyl,own,bel2⟩
  obtain ⟨A9,c9,rfl⟩:=own_slice own
  have HB2:=Lib.hid (And.intro (below_step bel2 HB1.out) (own_base own HB1.out.size))
  have hy9:ys.length≤2000000000:=by omega
  clear own bel2 hyl
  by_cases hn:ys.length≤400
  ·have hn':¬(400:Int) < (ys.length:Int):=by omega
   have HN:=Lib.hid hn
   clear hn
   go_wp2
   go_ret2
   exact ⟨_,ys,true,rfl,HN.out,HB2.out.2,HB2.out.1⟩
  ·have hn':(400:Int) < (ys.length:Int):=by omega
   obtain ⟨zs,h1,h2,h3⟩:=SmB.empty HB2.out.1
   have HF:=Lib.hid (And.intro h1 (And.intro h2 h3))
   clear hn h1 h2 h3
   go_wp2
   go_ret2
   exact ⟨_,zs,false,rfl,HF.out.1,HF.out.2.1,HF.out.2.2⟩
set_option maxHeartbeats 4000000 in
set_option maxRecDepth 100000 in
theorem defaultValue_any (vD:Value) (L:List RM) (k:Nat) (B:Nat) (w:World) (h:SlD w B vD L) (hB:B≤w.heap.size) (ok:∀r∈L,r.d.ok) (sm:∀r∈L,r.d.small 1048576) (hv:validD (L.map RM.d)=true) (h4:∀r∈L,r.d.kids.length≤4∧0≤r.d.size∧r.d.size≤4) (hk:k < L.length):
  Calls Tryd.prog 85 #[.agg #[vD], .int .i64 k] w (DfE (8*5 ^ k) w):=by
 have hlm:(L.map RM.d).length=L.length:=List.length_map ..
 have hkn:knownD (L.map RM.d) k=true:=by
  unfold knownD
  rw [hv,Bool.and_true]
  exact inB_iff.2 (by omega)
 have hK:∀W,Below w.heap.size w W→Calls Tryd.prog 40 #[.agg #[vD], .int .i64 k] W fun e w'=> e= .returned (.bool true)∧Below W.heap.size W w':=fun W hw=> by
  have:=specKnown_any vD L k B W (h.below (hw.mono hB)) (by have:=hw.size;omega) ok sm
  rwa [hkn] at this
 have hR:∀W,Below w.heap.size w W→Calls Tryd.prog 102 #[.agg #[vD], .int .i64 k] W (DfE (8*5 ^ k) W):=fun W hw=>
  l9Default_any L hv h4 k hk vD B W (h.below (hw.mono hB)) (by have:=hw.size;omega)
 obtain ⟨A,c,rfl,hc,hm, -⟩:=h.open_
 have HK:=Lib.hid hK
 have HR:=Lib.hid hR
 clear hK hR h ok sm hv hkn hlm h4
 obtain ⟨W0,hW0⟩:∃W0,W0=(w.alloc (.cells #[.slice A L.length c] 26)).alloc (.cells #[.int .i64 0, .slice none 0 0, .slice none 0 0] 29):=⟨_,rfl⟩
 have hb0:Below w.heap.size w W0:=by rw [hW0];exact ((Below.refl w.heap.size w).alloc (Nat.le_refl _) _).alloc (by simp) _
 have Kd:Blk W0 w.heap.size 26 #[.slice A L.length c]:=by rw [hW0];exact (Blk.new w _ _).alloc _
 have Kv:Blk W0 (w.heap.size+1) 29 #[.int .i64 0, .slice none 0 0, .slice none 0 0]:=by
  rw [hW0]
  have:=Blk.new (w.alloc (.cells #[.slice A L.length c] 26)) 29 #[.int .i64 0, .slice none 0 0, .slice none 0 0]
  simpa using this
 have s0:W0.cell? ⟨w.heap.size,0,none⟩=some (.slice A L.length c):=Kd.cell 0 rfl
 have hz0:w.heap.size+1 < W0.heap.size:=Kv.lt
 have KD:=Lib.hid Kd
 have KV:=Lib.hid Kv
 have HB0:=Lib.hid hb0
 clear Kd Kv hb0
 go_enter Tryd.func85,Tryd.ntmps85
 go_upto_region 1 with fail
 rw [←hW0]
 clear hW0
 go_wp2_with fail
 refine (HK.out _ HB0.out).mono ?_
 rintro e w1 ⟨rfl,bel⟩
 have s0:w1.cell? ⟨w.heap.size,0,none⟩=some (.slice A L.length c):=(KD.out.below bel).cell 0 rfl
 have hz1:=bel.size
 have H1:=Lib.hid (And.intro bel (below_step bel HB0.out))
 clear bel
 go_wp2_with fail
 refine (HR.out _ H1.out.2).mono ?_
 rintro e5 w5 ⟨x,rfl,hxo,hxs,bel⟩
 obtain ⟨A5,c5,e5, -⟩:=hxo.own.rd.bytes.open_
 obtain ⟨A6,c6,e6, -⟩:=hxo.own.rd.its.open_
 unfold vmV
 rw [e5,e6]
 have bq5:=below_step bel H1.out.1
 have Kq:=KV.out.below bq5
 obtain ⟨⟨q0,q1,q2⟩,g0,g1,g2⟩:=Kq.c3
 obtain ⟨⟨z0,z1,z2⟩, -⟩:=(Kq.put3 (.int .i64 x.n) (.slice A5 x.b.length c5) (.slice A6 x.items.length c6)).c3
 have hfo:OwV1 x w.heap.size (((w5.setCell ⟨w.heap.size+1,0,none⟩ (.int .i64 x.n)).setCell ⟨w.heap.size+1,1,none⟩ (.slice A5 x.b.length c5)).setCell ⟨w.heap.size+1,2,none⟩ (.slice A6 x.items.length c6)).heap.size (((w5.setCell ⟨w.heap.size+1,0,none⟩ (.int .i64 x.n)).setCell ⟨w.heap.size+1,1,none⟩ (.slice A5 x.b.length c5)).setCell ⟨w.heap.size+1,2,none⟩ (.slice A6 x.items.length c6)):=
  ⟨(hxo.own.keep fun g hg=> by
    have h1:=(hxo.rng g hg).1
    rw [Below.heap_setCell _ _ _ g (by show g≠w.heap.size+1;omega),Below.heap_setCell _ _ _ g (by show g≠w.heap.size+1;omega),Below.heap_setCell _ _ _ g (by show g≠w.heap.size+1;omega)]).base (by omega),hxo.nd,fun g hg=> by have h1:=hxo.rng g hg;simp;omega⟩
 have HF:=Lib.hid (And.intro hfo (And.intro hxs (And.intro (below_put3 (below_step bq5 HB0.out) (show w.heap.size≤w.heap.size+1 by omega) (.int .i64 x.n) (.slice A5 x.b.length c5) (.slice A6 x.items.length c6)) (And.intro e5 e6))))
 clear Kq bel bq5 hxo hxs hfo e5 e6 s0
 go_wp2
 exact bodyPost_ret (v:= .agg #[.int .i64 x.n, .slice A5 x.b.length c5, .slice A6 x.items.length c6]) (by simp [results,Tryd.results85,go_sem,z0,z1,z2]) rfl ⟨x,by unfold vmV;rw [HF.out.2.2.2.1,HF.out.2.2.2.2],HF.out.1,HF.out.2.1,HF.out.2.2.1⟩
end Go.Proofs.YteldgdelmaeokaaDoor
namespace Go.Proofs.YteldgdelmaeokaaDoor
open Go.RowKit
set_option maxHeartbeats 4000000 in
set_option maxRecDepth 100000 in
theorem printFile_any (vD:Value) (L:List RM) (x:VM) (B:Nat) (w:World) (h:SlD w B vD L) (hB:B≤w.heap.size) (ok:∀r∈L,r.d.ok) (sm:∀r∈L,r.d.small 1048576) (hv:validD (L.map RM.d)=true) (h1:1≤L.length) (h24:L.length≤24) (hx:x.rd w B) (hs:x.d.size≤1048576):
  Calls Tryd.prog 84 #[.agg #[vD],vmV x] w (SmB w):=by
 have hT:∀W,Below w.heap.size w W→Calls Tryd.prog 36 #[.agg #[vD]] W fun e w'=> e= .returned (.int .i64 ((L.length - 1:Nat):Int))∧Below W.heap.size W w':=fun W hw=> rootS_any vD L B W (h.below (hw.mono hB)) h1 h24
 have hP:∀W,Below w.heap.size w W→Calls Tryd.prog 101 #[.agg #[vD], .int .i64 ((L.length - 1:Nat):Int),vmV x] W (SmB W):=fun W hw=>
  printAny_any vD L (L.length - 1) x B W (h.below (hw.mono hB)) (by have:=hw.size;omega) ok sm hv (by omega) (hx.bel (hw.mono hB)) hs
 obtain ⟨A,c,rfl,hc,hm, -⟩:=h.open_
 obtain ⟨Ax,cx,ex, -⟩:=hx.bytes.open_
 obtain ⟨Ay,cy,ey, -⟩:=hx.its.open_
 unfold vmV at hP ⊢
 rw [ex,ey] at hP ⊢
 have HT:=Lib.hid hT
 have HP:=Lib.hid hP
 clear hT hP h hx ok sm hv ex ey
 generalize L.length - 1=root at*
 obtain ⟨W0,hW0⟩:∃W0,W0=(w.alloc (.cells #[.slice A L.length c] 26)).alloc (.cells #[.int .i64 x.n, .slice Ax x.b.length cx, .slice Ay x.items.length cy] 29):=⟨_,rfl⟩
 have hb0:Below w.heap.size w W0:=by rw [hW0];exact ((Below.refl w.heap.size w).alloc (Nat.le_refl _) _).alloc (by simp) _
 have Kd:Blk W0 w.heap.size 26 #[.slice A L.length c]:=by rw [hW0];exact (Blk.new w _ _).alloc _
 have Kv:Blk W0 (w.heap.size+1) 29 #[.int .i64 x.n, .slice Ax x.b.length cx, .slice Ay x.items.length cy]:=by rw [hW0];have:=Blk.new (w.alloc (.cells #[.slice A L.length c] 26)) 29 #[.int .i64 x.n, .slice Ax x.b.length cx, .slice Ay x.items.length cy];simpa using this
 have s0:W0.cell? ⟨w.heap.size,0,none⟩=some (.slice A L.length c):=Kd.cell 0 rfl
 obtain ⟨⟨v0,v1,v2⟩, -⟩:=Kv.c3
 have bq:=(Below.refl W0.heap.size W0).drew
 have bw:=hb0.drew
 clear Kd Kv hb0
 go_enter Tryd.func84,Tryd.ntmps84
 go_upto_region 1 with fail
 rw [←hW0]
 clear hW0
 go_wp2_with fail
 refine wp_region_held_drew (S:=(fun w9=> w9.cell? ⟨w.heap.size,0,none⟩=some (.slice A L.length c)∧w9.cell? ⟨w.heap.size+1,0,none⟩=some (.int .i64 x.n)∧w9.cell? ⟨w.heap.size+1,1,none⟩=some (.slice Ax x.b.length cx)∧w9.cell? ⟨w.heap.size+1,2,none⟩=some (.slice Ay x.items.length cy))) (by kernel_rfl) ?_ (fun hHeld=> ?_)
 ·(try dsimp only);exact ⟨s0,v0,v1,v2⟩
 refine rgTake 0 (some 6) hHeld _ ?_;try go_frame
 refine rgTake 1 (some 7) hHeld _ ?_;try go_frame
 refine rgTake 3 (some 9) hHeld _ ?_;try go_frame
 refine rgStep 2 (fun K hK=> ?_)
 go_simp
 refine (HT.out _ bw).mono ?_;rintro e2 w2 ⟨rfl,bel⟩;have bq:=below_step bel bq;have bw:=below_step bel bw
 (try go_wp2_with fail)
 refine hK.out _ _ ?_ (fun hHeld=> ?_)
 ·(try dsimp only);exact ⟨cell_later bq s0,cell_later bq v0,cell_later bq v1,cell_later bq v2⟩
 clear hK K
 try go_frame
 refine rgStep 4 (fun K hK=> ?_)
 go_simp
 refine (HP.out _ bw).mono ?_;rintro e3 w3 ⟨u,ys,okb,rfl,hyl,own,bel⟩;have hz2:=bw.size;have bq:=below_step bel bq;have bw:=below_step bel bw
 (try go_wp2_with fail)
 refine hK.out _ _ ?_ (fun hHeld=> ?_)
 ·(try dsimp only);exact ⟨cell_later bq s0,cell_later bq v0,cell_later bq v1,cell_later bq v2⟩
 clear hK K
 try go_frame
 refine rgTake 5 (some 11) hHeld _ ?_;try go_frame
 refine rgTake 6 (some 12) hHeld _ ?_;try go_frame
 refine rgTake 7 (some 4) hHeld _ ?_;try go_frame
 refine rgTake 8 (some 5) hHeld _ ?_;try go_frame
 refine wpAnyH_done (by kernel_rfl) ?_ _
 obtain ⟨A9,c9,rfl⟩:=own_slice own
 have HF:=Lib.hid (And.intro hyl (And.intro (own_base own (by exact hz2)) bw))
 clear bq bw own s0 v0 v1 v2 hHeld hyl
 go_wp2
 go_ret2
 exact ⟨_,ys,okb,rfl,HF.out.1,HF.out.2.1,HF.out.2.2⟩
set_option maxHeartbeats 4000000 in
set_option maxRecDepth 100000 in
theorem smallest_any (vD:Value) (L:List RM) (B:Nat) (w:World) (h:SlD w B vD L) (hB:B≤w.heap.size) (ok:∀r∈L,r.d.ok) (sm:∀r∈L,r.d.small 1048576) (hv:validD (L.map RM.d)=true) (h1:1≤L.length) (h6:L.length≤6) (h4:∀r∈L,r.d.kids.length≤4∧0≤r.d.size∧r.d.size≤4):
  Calls Tryd.prog 55 #[.agg #[vD]] w (SmB w):=by
 have hT:∀W,Below w.heap.size w W→Calls Tryd.prog 36 #[.agg #[vD]] W fun e w'=> e= .returned (.int .i64 ((L.length - 1:Nat):Int))∧Below W.heap.size W w':=fun W hw=> rootS_any vD L B W (h.below (hw.mono hB)) h1 (by omega)
 have hD:∀W,Below w.heap.size w W→Calls Tryd.prog 85 #[.agg #[vD], .int .i64 ((L.length - 1:Nat):Int)] W (DfE (8*5 ^ (L.length - 1)) W):=fun W hw=>
  defaultValue_any vD L (L.length - 1) B W (h.below (hw.mono hB)) (by have:=hw.size;omega) ok sm hv h4 (by omega)
 have hpw:8*5 ^ (L.length - 1)≤1048576:=by
  have:L.length - 1=0∨L.length - 1=1∨L.length - 1=2∨L.length - 1=3∨L.length - 1=4∨L.length - 1=5:=by omega
  rcases this with e|e|e|e|e|e <;> rw [e] <;> decide
 have hP:∀(x:VM) W,Below w.heap.size w W→x.rd W W.heap.size→x.d.size≤1048576→Calls Tryd.prog 84 #[.agg #[vD],vmV x] W (SmB W):=fun x W hw hx hs=>
  printFile_any vD L x W.heap.size W ((h.below (hw.mono hB)).more (by have:=hw.size;omega)) (Nat.le_refl _) ok sm hv h1 (by omega) hx hs
 obtain ⟨A,c,rfl,hc,hm, -⟩:=h.open_
 have HT:=Lib.hid hT
 have HD:=Lib.hid hD
 have HP:=Lib.hid hP
 have HPW:=Lib.hid hpw
 clear hT hD hP h ok sm hv hpw h4
 generalize L.length - 1=root at*
 obtain ⟨W0,hW0⟩:∃W0,W0=w.alloc (.cells #[.slice A L.length c] 26):=⟨_,rfl⟩
 have hb0:Below w.heap.size w W0:=by rw [hW0];exact (Below.refl w.heap.size w).alloc (Nat.le_refl _) _
 have s0:W0.cell? ⟨w.heap.size,0,none⟩=some (.slice A L.length c):=by rw [hW0];simp [go_sem]
 have bq:=(Below.refl W0.heap.size W0).drew
 have bw:=hb0.drew
 clear hb0
 go_enter Tryd.func55,Tryd.ntmps55
 go_upto_region 1 with fail
 rw [←hW0]
 clear hW0
 go_wp2_with fail
 refine wp_region_held_drew (S:=(fun w9=> w9.cell? ⟨w.heap.size,0,none⟩=some (.slice A L.length c))) (by kernel_rfl) ?_ (fun hHeld=> ?_)
 ·(try dsimp only);exact s0
 refine rgTake 0 (some 4) hHeld _ ?_;try go_frame
 refine rgTake 1 (some 5) hHeld _ ?_;try go_frame
 refine rgTake 2 (some 6) hHeld _ ?_;try go_frame
 refine rgStep 3 (fun K hK=> ?_)
 go_simp
 refine (HT.out _ bw).mono ?_;rintro e2 w2 ⟨rfl,bel⟩;have bq:=below_step bel bq;have bw:=below_step bel bw
 (try go_wp2_with fail)
 refine hK.out _ _ ?_ (fun hHeld=> ?_)
 ·(try dsimp only);exact cell_later bq s0
 clear hK K
 try go_frame
 refine rgStep 4 (fun K hK=> ?_)
 go_simp
 refine (HD.out _ bw).mono ?_;rintro e3 w3 ⟨x,rfl,hxo,hxs,bel⟩;have bq:=below_step bel bq;have bw:=below_step bel bw;have HP2:=Lib.hid (HP.out x w3 bw hxo.own.rd (by have:=HPW.out;omega));obtain ⟨A5,c5,e5, -⟩:=hxo.own.rd.bytes.open_;obtain ⟨A6,c6,e6, -⟩:=hxo.own.rd.its.open_;clear hxo hxs;unfold vmV at HP2 ⊢;rw [e5,e6] at HP2 ⊢;clear e5 e6
 (try go_wp2_with fail)
 refine hK.out _ _ ?_ (fun hHeld=> ?_)
 ·(try dsimp only);exact cell_later bq s0
 clear hK K
 try go_frame
 refine rgStep 5 (fun K hK=> ?_)
 go_simp
 refine HP2.out.mono ?_;rintro e4 w4 ⟨u,ys,okb,rfl,hyl,own,bel⟩;have hz2:=bw.size;have bq:=below_step bel bq;have bw:=below_step bel bw
 (try go_wp2_with fail)
 refine hK.out _ _ ?_ (fun hHeld=> ?_)
 ·(try dsimp only);exact cell_later bq s0
 clear hK K
 try go_frame
 refine rgTake 6 (some 10) hHeld _ ?_;try go_frame
 refine rgTake 7 (some 11) hHeld _ ?_;try go_frame
 refine rgTake 8 (some 2) hHeld _ ?_;try go_frame
 refine rgTake 9 (some 3) hHeld _ ?_;try go_frame
 refine wpAnyH_done (by kernel_rfl) ?_ _
 obtain ⟨A9,c9,rfl⟩:=own_slice own
 have HF:=Lib.hid (And.intro hyl (And.intro (own_base own (by exact hz2)) bw))
 clear bq bw own s0 hHeld hyl
 go_wp2
 go_ret2
 exact ⟨_,ys,okb,rfl,HF.out.1,HF.out.2.1,HF.out.2.2⟩
end Go.Proofs.YteldgdelmaeokaaDoor
namespace Go.Proofs.YteldgdelmaeokaaDoor
open Go.RowKit
def DrawXE (w:World) (e:Ending) (w':World):Prop:=
 ∃(A:Option Addr) (c:Nat) (L:List RM) (u:Value) (b:List UInt8) (v:Value) (es:List Ent),e= .returned (.tuple #[.agg #[.slice A L.length c],u,v])∧DrD (L.map RM.d)∧1≤L.length∧L.length≤6∧b.length≤400∧SlB w' w'.heap.size u b∧Hid (IxOk (L.map RM.d) b es)∧SlE w' w'.heap.size v es∧SlD w' w'.heap.size (.slice A L.length c) L∧Below w.heap.size w w'
theorem few_of {L:List RM} (h:DrD (L.map RM.d)):∀r∈L,r.d.kids.length≤4∧0≤r.d.size∧r.d.size≤4:=fun r hr=> by
 obtain ⟨k,hk,rfl⟩:=List.getElem_of_mem hr
 have:=h k (by rw [List.length_map];exact hk)
 rw [List.getElem_map] at this
 exact ⟨this.lens.2.2.2,this.size⟩
theorem own_max {w:World} {base:Nat} {e:TypeId} {v:Value} {n:Nat} {xs:List Value} (h:w.ownsRow base e 1 v n xs):n≤maxLen:=by
 obtain ⟨-,A,c, -,h1,h2, -⟩:=Sl.of_own h
 omega
set_option maxHeartbeats 4000000 in
set_option maxRecDepth 100000 in
theorem drawIndexed_any (v:Value) (l:List UInt8) (w:World) (h:SlB w w.heap.size v l) (hl:l.length≤1048576):Calls Tryd.prog 19 #[v] w (DrawXE w):=by
 obtain ⟨W0,hW0⟩:∃W0,W0=w.alloc (.cells #[.slice none 0 0] 26):=⟨_,rfl⟩
 have hb0:Below w.heap.size w W0:=by rw [hW0];exact (Below.refl w.heap.size w).alloc (Nat.le_refl _) _
 have hz0:w.heap.size+1≤W0.heap.size:=by rw [hW0];simp
 have R0:Blk W0 w.heap.size 26 #[.slice none 0 0]:=by rw [hW0];exact Blk.new w _ _
 have H0:=Lib.hid (And.intro (h.below hb0) (And.intro hb0 R0))
 clear h hb0 R0
 go_enter Tryd.func19,Tryd.ntmps19
 go_upto_region 1 with fail
 rw [←hW0]
 clear hW0
 go_wp2_with fail
 refine (l1New_any v l w.heap.size W0 H0.out.1 hl).mono ?_
 rintro e w1 ⟨rfl,xc,rfl⟩
 obtain ⟨W1,hW1⟩:∃W1,W1=W0.alloc (.cells #[v, .int .i64 0, .int .i64 xc] 98):=⟨_,rfl⟩
 rw [←hW1]
 have h01:Below W0.heap.size W0 W1:=by rw [hW1];exact (Below.refl _ _).alloc (Nat.le_refl _) _
 have hc1:CurW W0.heap.size v l W1:=by rw [hW1];exact ⟨(SlB.more (B':=W0.heap.size) H0.out.1 (by omega)).below ((Below.refl _ _).alloc (Nat.le_refl _) _),cur_new⟩
 have H1:=Lib.hid (And.intro hc1 (And.intro (below_step h01 H0.out.2.1) (H0.out.2.2.below h01)))
 have hz1:W0.heap.size < W1.heap.size:=hc1.lt
 clear hW1 h01 hc1 H0
 go_wp2_with fail
 refine (l4Description_any W0.heap.size v l W1 H1.out.1).mono ?_
 rintro e w2 ⟨A,c,L,rfl,hdr,hl1,hl6,hdg,hgo,hcu⟩
 have hz2:=hgo.size
 obtain ⟨W3,hW3⟩:∃W3,W3=w2.alloc (.cells #[.slice A L.length c] 26):=⟨_,rfl⟩
 have h23:Below w2.heap.size w2 W3:=by rw [hW3];exact (Below.refl _ _).alloc (Nat.le_refl _) _
 have D3:Blk W3 w2.heap.size 26 #[.slice A L.length c]:=by rw [hW3];exact Blk.new w2 _ _
 have hz3:w2.heap.size < W3.heap.size:=D3.lt
 have hgo3:=hgo.trans (GoB.of_below h23)
 have HS3:=Lib.hid (hdg.stays.below h23)
 have H3:=Lib.hid (And.intro (hcu.below h23) (And.intro (hgo3.below H1.out.2.1 (by have:=H1.out.2.1.size;omega) (by omega)) (And.intro (H1.out.2.2.go hgo3 (by omega)) D3)))
 have hlm:(L.map RM.d).length=L.length:=List.length_map ..
 have HOK:=Lib.hid (And.intro (fun r (hr:r∈L)=> hdr.ok (by omega) _ (List.mem_map_of_mem hr):∀r∈L,r.d.ok) (And.intro (fun r (hr:r∈L)=> hdr.small _ (List.mem_map_of_mem hr):∀r∈L,r.d.small 1048576) (And.intro (hdr.valid (by omega) (by omega)) (few_of hdr))))
 have HDR:=Lib.hid hdr
 have hl1w:IntKind.i64.wrap ((L.length:Int) - 1)=((L.length - 1:Nat):Int):=by rw [IntWalk.i64_in _ (by omega)];omega
 have s0:W3.cell? ⟨w2.heap.size,0,none⟩=some (.slice A L.length c):=D3.cell 0 rfl
 clear hdg hgo hcu h23 D3 hgo3 hdr H1
 go_upto_region 3 with fail
 rw [←hW3]
 clear hW3
 refine wp_region_held_drew (S:=(fun w9=> w9.cell? ⟨w2.heap.size,0,none⟩=some (.slice A L.length c))) (by kernel_rfl) ?_ (fun hHeld=> ?_)
 ·(try dsimp only);exact s0
 refine rgTake 0 (some 14) hHeld _ ?_;try go_frame
 refine rgTake 1 (some 15) hHeld _ ?_;try go_frame
 refine rgTake 2 (some 16) hHeld _ ?_;try go_frame
 refine rgTake 3 (some 17) hHeld _ ?_;try go_frame
 refine rgTake 4 (some 18) hHeld _ ?_;try go_frame
 refine rgTake 5 (some 19) hHeld _ ?_;try go_frame
 refine rgTake 6 (some 20) hHeld _ ?_;try go_frame
 refine rgTake 7 (some 21) hHeld _ ?_;try go_frame
 refine rgTake 8 (some 22) hHeld _ ?_;try go_frame
 refine rgTake 9 (some 23) hHeld _ ?_;try go_frame
 refine rgTake 10 (some 24) hHeld _ ?_;try go_frame
 refine rgStep 11 (fun K hK=> ?_)
 go_simp
 refine (l9Make_any W0.heap.size (W1.heap.size+2) w2.heap.size v _ l L (L.length - 1) 10 W3.drew H3.out.1.drew (HS3.out.step (Nat.le_refl _) fun _ _ _=> rfl) (by omega) (by have:=hz3;show _≤W3.heap.size;omega) HDR.out (by omega) (by omega) (by omega)).mono ?_;rintro e w4 ⟨x,rfl,hxv,hxs,hxo,hgo4,hcu4⟩;obtain ⟨A5,c5,e5⟩:=own_slice hxo.own.bytes;obtain ⟨A6,c6,e6⟩:=own_slice hxo.own.row;have hz4:W3.heap.size≤w4.heap.size:=hgo4.size;have hgoq:GoB W0.heap.size W3 w4:=⟨hgo4.os,hgo4.tape,hgo4.output,hgo4.size,hgo4.block⟩;have hst4:Stays (W1.heap.size+2) w2.heap.size (fun w'=> SlD w' w2.heap.size (.slice A L.length c) L) w4:=HS3.out.go hgoq (by omega);have H4:=Lib.hid (And.intro hst4 (And.intro (H3.out.2.2.1.go hgoq (by omega)) (And.intro (H3.out.2.2.2.go hgoq (by omega)) (hgoq.below H3.out.2.1 (by have:=H3.out.2.1.size;omega) (by omega)))));have hsb:=sB_bd (k:=L.length - 1) (by omega);have HPR:=Lib.hid (l11Print_any L HOK.out.1 HOK.out.2.1 HOK.out.2.2.1 (L.length - 1) (by omega) _ x w4.heap.size w4 (hst4.now.more hst4.1) (Nat.le_refl _) hxv hxo.own.rd (by omega));have k0:w4.cell? ⟨w2.heap.size,0,none⟩=some (.slice A L.length c):=H4.out.2.2.1.cell 0 rfl;unfold vmV at HPR ⊢;rw [e5,e6] at HPR ⊢;clear hxv hxs hxo hgo4 hcu4 hgoq hst4 e5 e6 s0
 (try go_wp2_with fail)
 refine hK.out _ _ ?_ (fun hHeld=> ?_)
 ·(try dsimp only);exact k0
 clear hK K
 try go_frame
 refine rgStep 12 (fun K hK=> ?_)
 go_simp
 refine HPR.out.mono ?_;rintro e w5 ⟨u5,ys,rfl,hyl,own5,bel5⟩;have k0:=cell_later bel5 k0
 (try go_wp2_with fail)
 refine hK.out _ _ ?_ (fun hHeld=> ?_)
 ·(try dsimp only);exact k0
 clear hK K
 try go_frame
 refine rgTake 13 (some 7) hHeld _ ?_;try go_frame
 refine wpAnyH_done (by kernel_rfl) ?_ _
 obtain ⟨A9,c9,rfl⟩:=own_slice own5
 have HB5:=Lib.hid (And.intro own5 (And.intro bel5 (below_step bel5 H4.out.2.2.2)))
 have hym:=own_max own5
 clear own5 bel5 hyl k0 hHeld
 by_cases h400:ys.length≤400
 ·have h400':¬(400:Int) < (ys.length:Int):=by omega
  have s0:w5.cell? ⟨w2.heap.size,0,none⟩=some (.slice A L.length c):=(H4.out.2.2.1.below HB5.out.2.1).cell 0 rfl
  have hsdW:=(H4.out.1.below HB5.out.2.1).now.more (B':=w5.heap.size) (by have:=H4.out.1.1;have:=(HB5.out.2.1).size;omega)
  have HOB:=Lib.hid (And.intro HB5.out.1 (And.intro HB5.out.2.1 HB5.out.2.2))
  have HIXC:=Lib.hid (buildIndex_any _ _ L ys w5.heap.size w5 hsdW (Sl.of_own HB5.out.1) (Nat.le_refl _) HOK.out.1 HOK.out.2.1 HOK.out.2.2.1 hl1 hl6 (by omega))
  clear hsdW
  go_wp2_with fail
  refine HIXC.out.mono ?_
  rintro e7 w7 ⟨v7,es,ok7,rfl,HIX,own7,bel7⟩
  have bq7:=below_step bel7 HOB.out.2.1
  have kr7:=H4.out.2.1.below bq7
  have r0:w7.cell? ⟨w.heap.size,0,none⟩=some (.slice none 0 0):=kr7.cell 0 rfl
  have rf:w7.frozen? ⟨w.heap.size,0,none⟩=false:=kr7.frozen 0
  obtain ⟨A8,c8,rfl⟩:=own_slice own7
  have hz47:=bq7.size
  have hoz:=HOB.out.2.1.size
  obtain ⟨Y,hY⟩:∃Y,Y=w7.setCell ⟨w.heap.size,0,none⟩ (.slice A L.length c):=⟨_,rfl⟩
  have kY:Blk Y w.heap.size 26 #[.slice A L.length c]:=by rw [hY];have:=kr7.set 0 (.slice A L.length c);simpa using this
  have hYo:∀q,q≠w.heap.size→Y.heap[q]?=w7.heap[q]?:=fun q hq=> by rw [hY];exact Below.heap_setCell _ _ _ q hq
  have hYz:Y.heap.size=w7.heap.size:=by rw [hY];simp [World.setCell]
  have hsdY:SlD Y Y.heap.size (.slice A L.length c) L:=((H4.out.1.below bq7).set (g:=w.heap.size) (j:=0) (.inl (by omega)) (.slice A L.length c)).now|> fun h=> by rw [←hY] at h;exact h.more (by have:=H4.out.1.1;omega)
  have hbY:SlB Y Y.heap.size (.slice A9 ys.length c9) ys:=Sl.of_own (own_keepG (own_below HOB.out.1 bel7 (Nat.le_refl _)) fun g hg=> hYo g (by omega))
  have heY:SlE Y Y.heap.size (.slice A8 es.length c8) es:=Sl.of_own (own_keepG own7 fun g hg=> hYo g (by omega))
  have hbf:Below w.heap.size w Y:=by rw [hY];exact (below_step bel7 HOB.out.2.2).setCell (p:=⟨w.heap.size,0,none⟩) (Nat.le_refl _) _
  have t0:Y.cell? ⟨w.heap.size,0,none⟩=some (.slice A L.length c):=kY.cell 0 rfl
  have HF:=Lib.hid (And.intro hsdY (And.intro hbY (And.intro heY hbf)))
  have s7:w7.cell? ⟨w2.heap.size,0,none⟩=some (.slice A L.length c):=(H4.out.2.2.1.below bq7).cell 0 rfl
  rw [hY] at t0 HF
  clear hsdY hbY heY hbf own7 bel7 bq7 kr7 s0 hYo hYz kY hY HOB
  go_wp2
  exact bodyPost_ret (v:= .tuple #[.agg #[.slice A L.length c], .slice A9 ys.length c9, .slice A8 es.length c8]) (by simp [results,Tryd.results19,go_sem,t0]) rfl
   ⟨A,c,L,_,ys,_,es,rfl,HDR.out,hl1,hl6,by omega,HF.out.2.1,HIX,HF.out.2.2.1,HF.out.1,HF.out.2.2.2⟩
 ·have h400':(400:Int) < (ys.length:Int):=by omega
  have s0:w5.cell? ⟨w2.heap.size,0,none⟩=some (.slice A L.length c):=(H4.out.2.2.1.below HB5.out.2.1).cell 0 rfl
  have hsd5:=(H4.out.1.below HB5.out.2.1).now.more (B':=w5.heap.size) (by have:=H4.out.1.1;have:=HB5.out.2.1.size;omega)
  have HSM:=Lib.hid (smallest_any _ L w5.heap.size w5 hsd5 (Nat.le_refl _) HOK.out.1 HOK.out.2.1 HOK.out.2.2.1 hl1 hl6 HOK.out.2.2.2)
  clear hsd5 h400
  go_wp2_with fail
  refine HSM.out.mono ?_
  rintro e6 w6 ⟨u6,zs,ok6,rfl,hzl,own6,bel6⟩
  obtain ⟨A10,c10,rfl⟩:=own_slice own6
  have hz56:=HB5.out.2.1.size
  have HB6:=Lib.hid (And.intro (own_base own6 hz56) (And.intro (below_step bel6 HB5.out.2.1) (below_step bel6 HB5.out.2.2)))
  clear own6 bel6 s0
  have s0:w6.cell? ⟨w2.heap.size,0,none⟩=some (.slice A L.length c):=(H4.out.2.2.1.below HB6.out.2.1).cell 0 rfl
  have hsdW:=(H4.out.1.below HB6.out.2.1).now.more (B':=w6.heap.size) (by have:=H4.out.1.1;have:=(HB6.out.2.1).size;omega)
  have HOB:=Lib.hid (And.intro HB6.out.1 (And.intro HB6.out.2.1 HB6.out.2.2))
  have HIXC:=Lib.hid (buildIndex_any _ _ L zs w6.heap.size w6 hsdW (Sl.of_own HB6.out.1) (Nat.le_refl _) HOK.out.1 HOK.out.2.1 HOK.out.2.2.1 hl1 hl6 (by omega))
  clear hsdW
  go_wp2_with fail
  refine HIXC.out.mono ?_
  rintro e7 w7 ⟨v7,es,ok7,rfl,HIX,own7,bel7⟩
  have bq7:=below_step bel7 HOB.out.2.1
  have kr7:=H4.out.2.1.below bq7
  have r0:w7.cell? ⟨w.heap.size,0,none⟩=some (.slice none 0 0):=kr7.cell 0 rfl
  have rf:w7.frozen? ⟨w.heap.size,0,none⟩=false:=kr7.frozen 0
  obtain ⟨A8,c8,rfl⟩:=own_slice own7
  have hz47:=bq7.size
  have hoz:=HOB.out.2.1.size
  obtain ⟨Y,hY⟩:∃Y,Y=w7.setCell ⟨w.heap.size,0,none⟩ (.slice A L.length c):=⟨_,rfl⟩
  have kY:Blk Y w.heap.size 26 #[.slice A L.length c]:=by rw [hY];have:=kr7.set 0 (.slice A L.length c);simpa using this
  have hYo:∀q,q≠w.heap.size→Y.heap[q]?=w7.heap[q]?:=fun q hq=> by rw [hY];exact Below.heap_setCell _ _ _ q hq
  have hYz:Y.heap.size=w7.heap.size:=by rw [hY];simp [World.setCell]
  have hsdY:SlD Y Y.heap.size (.slice A L.length c) L:=((H4.out.1.below bq7).set (g:=w.heap.size) (j:=0) (.inl (by omega)) (.slice A L.length c)).now|> fun h=> by rw [←hY] at h;exact h.more (by have:=H4.out.1.1;omega)
  have hbY:SlB Y Y.heap.size (.slice A10 zs.length c10) zs:=Sl.of_own (own_keepG (own_below HOB.out.1 bel7 (Nat.le_refl _)) fun g hg=> hYo g (by omega))
  have heY:SlE Y Y.heap.size (.slice A8 es.length c8) es:=Sl.of_own (own_keepG own7 fun g hg=> hYo g (by omega))
  have hbf:Below w.heap.size w Y:=by rw [hY];exact (below_step bel7 HOB.out.2.2).setCell (p:=⟨w.heap.size,0,none⟩) (Nat.le_refl _) _
  have t0:Y.cell? ⟨w.heap.size,0,none⟩=some (.slice A L.length c):=kY.cell 0 rfl
  have HF:=Lib.hid (And.intro hsdY (And.intro hbY (And.intro heY hbf)))
  have s7:w7.cell? ⟨w2.heap.size,0,none⟩=some (.slice A L.length c):=(H4.out.2.2.1.below bq7).cell 0 rfl
  rw [hY] at t0 HF
  clear hsdY hbY heY hbf own7 bel7 bq7 kr7 s0 hYo hYz kY hY HOB
  go_wp2
  exact bodyPost_ret (v:= .tuple #[.agg #[.slice A L.length c], .slice A10 zs.length c10, .slice A8 es.length c8]) (by simp [results,Tryd.results19,go_sem,t0]) rfl
   ⟨A,c,L,_,zs,_,es,rfl,HDR.out,hl1,hl6,by omega,HF.out.2.1,HIX,HF.out.2.2.1,HF.out.1,HF.out.2.2.2⟩
end Go.Proofs.YteldgdelmaeokaaDoor
namespace Go.Proofs.YteldgdelmaeokaaDoor
open Go.RowKit
theorem lf_of_leafB {D:List RuleD} {e:Ent} (h:leafB D e=true):lfK D e.rule=true:=by
 unfold leafB at h
 unfold lfK
 rw [Bool.and_eq_true] at h
 have h2:=h.2
 cases hr:ruleAt D e.rule with
 |none=> rw [hr] at h2;cases h2
 |some r=>
  rw [hr] at h2
  simp only [leafK,Bool.or_eq_true,beq_iff_eq] at h2
  simp only [decide_eq_true_eq]
  omega
structure LeafOk (D:List RuleD) (n:Nat) (es:List Ent):Prop where
 hd:∃h:0 < es.length,(es[0]'h).path=⟨#[]⟩∧(es[0]'h).start=0∧(es[0]'h).stop=n
 bd:∀e∈es,0≤e.start∧e.start≤e.stop∧e.stop≤n
 ord:(es.filter (leafB D)).Pairwise fun a b=> a.stop≤b.start
theorem leaf_ok {D:List RuleD} {b:List UInt8} {es:List Ent} (h1:1≤D.length) (h:IxOk D b es) (hne:es≠ []):LeafOk D b.length es:=by
 rcases h with h|⟨⟨n,c,hr⟩,hes,hhd, -⟩
 ·exact absurd h hne
 have hG:=ixE_good D.length D.length (D.length - 1:Nat) 0 n c b.length hr (by omega)
 have hlen:=congrArg List.length hes
 rw [List.length_map,List.length_map] at hlen
 have hpos:0 < es.length:=List.length_pos_iff.2 hne
 obtain ⟨F,hF⟩:∃F,D.length=F+1:=⟨D.length - 1,by omega⟩
 refine ⟨⟨hpos,?_,?_⟩,fun e he=> ?_,?_⟩
 ·cases es with
  |nil=> exact absurd rfl hne
  |cons x es=> simpa using hhd
 ·have hx:∃l,ixE D b D.length D.length (D.length - 1:Nat) 0=(((D.length - 1:Nat):Int),0,b.length)::l:=by
   have hra:∃r,ruleAt D ((D.length - 1:Nat):Int)=some r:=⟨_,ruleAt_at (show D.length - 1 < D.length by omega)⟩
   obtain ⟨r,hra⟩:=hra
   generalize hq:D.length - 1=q at*
   have e1:ixE D b D.length (F+1) (q:Int) 0=((q:Int),0,b.length)::itX (ixE D b D.length F) (endE D b D.length) (itR r n c) (hdE D b r 0):=by rw [ixE,hra,hr]
   exact ⟨_,by conv=> lhs;arg 4;rw [hF]
               exact e1⟩
  obtain ⟨l,hx⟩:=hx
  rw [hx] at hes
  cases es with
  |nil=> exact absurd rfl hne
  |cons x es=>
   simp only [List.map_cons,List.cons.injEq] at hes
   have:=hes.1
   unfold tri triN at this
   simp only [Prod.mk.injEq] at this
   exact ⟨this.2.1,this.2.2⟩
 ·have hm:tri e∈es.map tri:=List.mem_map_of_mem he
  rw [hes] at hm
  obtain ⟨x,hx,hxe⟩:=List.mem_map.1 hm
  have:=hG.bd x hx
  unfold tri triN at hxe
  simp only [Prod.mk.injEq] at hxe
  omega
 ·rw [List.pairwise_filter]
  have h2:(es.map tri).Pairwise fun x y:Int × Int × Int=> lfK D x.1=true→lfK D y.1=true→x.2.2≤y.2.1:=by
   rw [hes,List.pairwise_map]
   exact hG.ord.imp fun hab h1 h2=> by have:=hab h1 h2;show ((_:Nat):Int)≤((_:Nat):Int);omega
  rw [List.pairwise_map] at h2
  exact h2.imp fun hab ha hb=> hab (lf_of_leafB ha) (lf_of_leafB hb)
theorem lastTo_some {p:Nat→Bool}:∀(n:Nat),(∃k,k < n∧p k=true)→∃k,k < n∧lastTo p n=(k:Nat)∧p k=true
 |0,⟨k,hk,_⟩=> absurd hk (by omega)
 |n+1,⟨k,hk,hp⟩=> by
  cases hn:p n with
  |true=> exact ⟨n,by omega,lastTo_yes hn,hn⟩
  |false=>
   rw [lastTo_no hn]
   obtain ⟨q,h1,h2,h3⟩:=lastTo_some n ⟨k,by
    have:k≠n:=fun e=> by rw [e,hn] at hp;cases hp
    omega,hp⟩
   exact ⟨q,by omega,h2,h3⟩
theorem lastTo_none {p:Nat→Bool}:∀(n:Nat),(∀k,k < n→p k=false)→lastTo p n= -1
 |0,_=> rfl
 |n+1,h=> by
  rw [lastTo_no (h n (by omega))]
  exact lastTo_none n fun k hk=> h k (by omega)
theorem at_in {n:Nat} {D:List RuleD} {es:List Ent} (h:LeafOk D n es) {i:Nat} (hi:i < n):∃(k:Nat) (hk:k < es.length),lastTo (hit (holdsAt i) es) es.length=k∧es[k].start≤i∧(i:Int) < es[k].stop:=by
 obtain ⟨h0, -,hs,ht⟩:=h.hd
 obtain ⟨k,hk,h1,h2⟩:=lastTo_some (p:=hit (holdsAt i) es) es.length ⟨0,h0,by rw [hit_at h0];simp only [holdsAt,hs,ht,Bool.and_eq_true,decide_eq_true_eq];omega⟩
 rw [hit_at hk] at h2
 simp only [holdsAt,Bool.and_eq_true,decide_eq_true_eq] at h2
 exact ⟨k,hk,h1,h2⟩
theorem at_end {n:Nat} {D:List RuleD} {es:List Ent} (h:LeafOk D n es):lastTo (hit (holdsAt n) es) es.length= -1:=
 lastTo_none _ fun k hk=> by
  rw [hit_at hk]
  have:=h.bd _ (List.getElem_mem hk)
  simp only [holdsAt,Bool.and_eq_false_iff,decide_eq_false_iff_not]
  omega
end Go.Proofs.YteldgdelmaeokaaDoor
