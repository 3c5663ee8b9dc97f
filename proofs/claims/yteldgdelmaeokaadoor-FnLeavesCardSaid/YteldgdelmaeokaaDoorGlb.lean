/- Out of Pr11, DrVal, EncW: the walks and plain laws that the claim needs. No condition but those that each theorem names. -/
import Derived.Test.YteldgdelmaeokaaDoorGla
import Derived.Test.YteldgdelmaeokaaDoorGf
import Derived.Test.YteldgdelmaeokaaDoorGb
import Derived.Test.YteldgdelmaeokaaDoorGda
import Derived.Test.YteldgdelmaeokaaDoorGdd
import Derived.Test.YteldgdelmaeokaaDoorGh
import Derived.WalkSpells
import Derived.WalkLawsBesides
import Derived.Deep.RegionHeld3
import Derived.Deep.DeepCutAuto
import Derived.Test.YteldgdelmaeokaaDoorGdc
import Derived.Test.YteldgdelmaeokaaDoorGde
import Derived.IntWalk
set_option linter.unusedSimpArgs false
set_option linter.unusedVariables false
namespace Go.Proofs.YteldgdelmaeokaaDoor
open Go.RowKit
theorem cell_rowQ {w w':World} {row:Option Nat} {g o:Nat} {u:Value} (hg:w.grownBy w' row) (h:w.cell? ⟨g,o,none⟩=some u) (hn:row≠some g):w'.cell? ⟨g,o,none⟩=some u:=by
 have hlt:=World.block_lt_of_cell? w ⟨g,o,none⟩ h
 rw [←h]
 unfold World.cell?
 simp only
 rw [hg.block g hlt (fun e=> hn e.symm)]
def PrnC (L:List RM) (k:Nat):Prop:=∀(vD:Value) (x:VM) (B:Nat) (w:World),SlD w B vD L→B≤w.heap.size→validV (L.map RM.d) k x.d=true→x.rd w B→x.d.size≤1048576→
 Calls Tryd.prog 54 #[.agg #[vD], .int .i64 k,vmV x] w (MadeN (lenV (L.map RM.d) k x.d).toNat w)
set_option maxHeartbeats 4000000 in
set_option maxRecDepth 100000 in
theorem l11Print_any (L:List RM) (ok:∀r∈L,r.d.ok) (sm:∀r∈L,r.d.small 1048576) (hv:validD (L.map RM.d)=true) (k:Nat):k < L.length→PrnC L k:=by
 induction k using Nat.strongRecOn with
 |ind k ih=>
 intro hk vD x B w h hB hvx hx hs
 obtain ⟨i0,hi,hz0,hz1,hz2⟩:=info_parts Tryd.info_u8
 have hlm:(L.map RM.d).length=L.length:=List.length_map ..
 have hkind:=ruleOk_kind (validD_at hv (k:=k) (by rw [hlm];exact hk))
 rw [List.getElem_map] at hkind
 have hlen:x.items.length≤1048576:=by
  have h2:=Val.length_le (x.items.map VM.d)
  rw [List.length_map] at h2
  have h1:=hs
  rw [VM.size_d] at h1
  omega
 have hit:∀j (hj:j < x.items.length),∃k':Nat,itemR L[k].d x.n j=k'∧k' < k∧validV (L.map RM.d) k' x.items[j].d=true:=fun j hj=> by
  have h1:=validV_item hvx (j:=j) (by rw [VM.items_d,List.length_map];exact hj)
  rw [itemAt_at (by rw [hlm];exact hk),VM.d_items_at hj,VM.n_d,List.getElem_map] at h1
  have h2:=hvx
  rw [validV_mk] at h2
  unfold ruleAt at h2
  rw [if_pos (by omega),Int.toNat_natCast,List.getElem?_eq_getElem (by rw [hlm];exact hk)] at h2
  simp only [Bool.and_eq_true] at h2
  rw [List.getElem_map] at h2
  have hro:=validD_at hv (k:=k) (by rw [hlm];exact hk)
  rw [List.getElem_map] at hro
  obtain ⟨q,e1,e2⟩:=own_item (j:=j) hro h2.1 (by rw [VM.items_d,List.length_map];exact hj)
  rw [VM.n_d] at e1
  exact ⟨q,e1,e2,by rw [←e1];exact h1⟩
 obtain ⟨A,c,rfl,hc,hm, -⟩:=h.open_
 have hRC:=rule_cells h k hk
 obtain ⟨b0,off,A1,c1,A2,c2,A3,c3,A4,c4,rfl,hbB,e1,e2,e3,e4,m1,m2,m3,m4,hcell⟩:=hRC
 obtain ⟨Ax,cx,ex, -⟩:=hx.bytes.open_
 obtain ⟨Ay,cy,ey,hcy,hmy,hic⟩:=hx.its.open_
 have hC:∀(j:Nat),j < x.items.length→∀W,Below w.heap.size w W→Calls Tryd.prog 39 #[rmV L[k], .int .i64 x.n, .int .i64 j] W fun e w'=> e= .returned (.int .i64 (itemR L[k].d x.n j))∧Below W.heap.size W w':=fun j hj W hb=>
  l9Item_any (L.map RM.d) L[k] x.n j B W ((h.2 _ (List.getElem_mem hk)).below (hb.mono hB)) (by have:=hb.size;omega) hkind (sm _ (List.getElem_mem hk)) (by omega)
 have hP:∀(j:Nat) (hj:j < x.items.length) (k':Nat),k' < k→validV (L.map RM.d) k' x.items[j].d=true→∀W,Below w.heap.size w W→Calls Tryd.prog 54 #[.agg #[.slice (some ⟨b0,off,none⟩) L.length c], .int .i64 k',vmV x.items[j]] W (MadeN (lenV (L.map RM.d) k' x.items[j].d).toNat W):=fun j hj k' h1 h2 W hb=>
  ih k' h1 (by omega) _ x.items[j] B W (h.below (hb.mono hB)) (by have:=hb.size;omega) h2 ((hx.bel (hb.mono hB)).its.2 _ (List.getElem_mem hj)) (VM.size_item hj hs)
 have hsl:∀j (hj:j < x.items.length),∃A5 c5 A6 c6,x.items[j].vb= .slice A5 x.items[j].b.length c5∧x.items[j].vi= .slice A6 x.items[j].items.length c6:=fun j hj=> by
  have hr:=hx.its.2 _ (List.getElem_mem hj)
  obtain ⟨A5,c5,e5, -⟩:=hr.bytes.open_
  obtain ⟨A6,c6,e6, -⟩:=hr.its.open_
  exact ⟨A5,c5,A6,c6,e5,e6⟩
 unfold rmV at hC
 rw [e1,e2,e3,e4] at hC
 have hszs:x.d.size=x.b.length+Val.sizes (x.items.map VM.d):=VM.size_d x
 have hnn:=lenVs_nonneg hv (k:=k) (by rw [hlm];omega) (len_all hv k (by rw [hlm];omega)) (r:=L[k].d) (n:=x.n) (l:=x.items.map VM.d) (fun j hj=> by
  rw [List.length_map] at hj
  obtain ⟨k',h1,h2,h3⟩:=hit j hj
  exact ⟨k',h1,h2,by rw [List.getElem_map];exact h3⟩)
 have hll:=lenVs_sizes (D:=L.map RM.d) (r:=L[k].d) (n:=x.n) (l:=x.items.map VM.d) (fun j hj=> by
  rw [List.length_map] at hj
  obtain ⟨k',h1,h2,h3⟩:=hit j hj
  rw [h1,List.getElem_map]
  exact lenV_le hv k (by rw [hlm];omega) k' h2 _ h3)
 have hlk:∀j (hj:j < x.items.length) (k':Nat),k' < k→validV (L.map RM.d) k' x.items[j].d=true→0≤lenV (L.map RM.d) k' x.items[j].d∧lenV (L.map RM.d) k' x.items[j].d≤943718400+900:=fun j hj k' h1 h2=> by
  have e1:=lenV_le hv k (by rw [hlm];omega) k' h1 _ h2
  have e2:=(len_all hv k (by rw [hlm];omega)).lo k' h1 _ h2
  have e3:=(at0_bd (mins_bd hv k (by rw [hlm];omega)) (by omega) (k':Int)).1
  have e4:=VM.size_item hj hs
  omega
 have hlv:=lenV_at (D:=L.map RM.d) (k:=k) (by rw [hlm];exact hk) x.d
 rw [List.getElem_map,VM.b_d,VM.n_d,VM.items_d] at hlv
 unfold vmV
 rw [ex,ey]
 have HIT:=Lib.hid hit
 have HC:=Lib.hid hC
 have HP:=Lib.hid hP
 have HSL:=Lib.hid hsl
 have HIC:=Lib.hid hic
 have HCL:=Lib.hid hcell
 have HSZ:=Lib.hid hszs
 have HNN:=Lib.hid hnn
 have HLL:=Lib.hid hll
 have HLK:=Lib.hid hlk
 have HLV:=Lib.hid hlv
 unfold maxLen at hm hmy
 have hbx:b0 < w.heap.size:=by omega
 have hkl:=hk
 clear hit hC hP hsl hic hcell hszs hnn hll hlk hlv ih
 obtain ⟨W0,hW0⟩:∃W0,W0=(w.alloc (.cells #[.slice (some ⟨b0,off,none⟩) L.length c] 26)).alloc (.cells #[.int .i64 x.n, .slice Ax x.b.length cx, .slice Ay x.items.length cy] 29):=⟨_,rfl⟩
 have hb0:Below w.heap.size w W0:=by rw [hW0];exact ((Below.refl w.heap.size w).alloc (Nat.le_refl _) _).alloc (by simp) _
 have hz0':w.heap.size+2≤W0.heap.size:=by rw [hW0];simp
 have Kd:Blk W0 w.heap.size 26 #[.slice (some ⟨b0,off,none⟩) L.length c]:=by rw [hW0];exact (Blk.new w _ _).alloc _
 have Kv:Blk W0 (w.heap.size+1) 29 #[.int .i64 x.n, .slice Ax x.b.length cx, .slice Ay x.items.length cy]:=by rw [hW0];have:=Blk.new (w.alloc (.cells #[.slice (some ⟨b0,off,none⟩) L.length c] 26)) 29 #[.int .i64 x.n, .slice Ax x.b.length cx, .slice Ay x.items.length cy];simpa using this
 have s0:W0.cell? ⟨w.heap.size,0,none⟩=some (.slice (some ⟨b0,off,none⟩) L.length c):=Kd.cell 0 rfl
 obtain ⟨⟨v0,v1,v2⟩, -⟩:=Kv.c3
 obtain ⟨x0,x1,x2,x3,x4,x5,x6,x7⟩:=HCL.out W0 (below_cells hb0 hB)
 go_enter Tryd.func54,Tryd.ntmps54
 go_upto_region 1 with fail
 rw [←hW0]
 clear hW0
 obtain ⟨W1,hW1⟩:∃W1,W1=W0.alloc (.cells #[.string L[k].d.name, .int .i64 L[k].d.kind, .int .i64 L[k].d.size, .bool L[k].d.little, .slice A1 L[k].d.bytes.length c1, .slice A2 L[k].d.names.length c2, .slice A3 L[k].d.tags.length c3, .slice A4 L[k].d.kids.length c4] 73):=⟨_,rfl⟩
 have h01:Below W0.heap.size W0 W1:=by rw [hW1];exact (Below.refl _ _).alloc (Nat.le_refl _) _
 have Kr:Blk W1 W0.heap.size 73 #[.string L[k].d.name, .int .i64 L[k].d.kind, .int .i64 L[k].d.size, .bool L[k].d.little, .slice A1 L[k].d.bytes.length c1, .slice A2 L[k].d.names.length c2, .slice A3 L[k].d.tags.length c3, .slice A4 L[k].d.kids.length c4]:=by rw [hW1];exact Blk.new W0 _ _
 have Kd:=Kd.below h01
 have Kv:=Kv.below h01
 go_upto_region 2 with fail
 rw [←hW1]
 clear hW1 s0 v0 v1 v2 x0 x1 x2 x3 x4 x5 x6 x7
 have hz1':w.heap.size+2 < W1.heap.size:=by have:=Kr.lt;omega
 have hb1:=Lib.hid (below_step h01 hb0)
 have HKD:=Lib.hid Kd
 have HKV:=Lib.hid Kv
 have HKR:=Lib.hid Kr
 clear Kd Kv Kr h01 hb0
 go_wp2
 go_loopw [8,9] (fun o i wr=> ∃(j:Nat) (xs:List UInt8),j≤x.items.length∧i= .int .i64 j∧(xs.length:Int)=lenVs (L.map RM.d) L[k].d x.n 0 ((x.items.map VM.d).take j)∧wr.ownsRow W1.heap.size 5 1 o xs.length (u8s xs)∧Below W1.heap.size W1 wr) (fun _ i _=> x.items.length - (intOf i).toNat)
 case atStart=> exact ⟨0, [],Nat.zero_le _,rfl,by rw [List.take_zero,lenVs_nil];rfl,own_empty _ _ _,(Below.refl _ _).alloc (Nat.le_refl _) _⟩
 case round=>
  obtain ⟨j,xs,hj,rfl,hxl,hown,hb⟩:=hrel
  have hsz:=hb.size
  have bw:Below w.heap.size w wr:=below_step hb hb1.out
  have s0:wr.cell? ⟨w.heap.size,0,none⟩=some (.slice (some ⟨b0,off,none⟩) L.length c):=(HKD.out.below hb).cell 0 rfl
  obtain ⟨⟨v0,v1,v2⟩, -⟩:=(HKV.out.below hb).c3
  obtain ⟨⟨t0,t1,t2,t3,t4,t5,t6,t7⟩, -⟩:=(HKR.out.below hb).c8
  have hW0l:=HKR.out.lt
  have HOW:=Lib.hid hown
  have HB:=Lib.hid (And.intro hb bw)
  have HXL:=Lib.hid hxl
  have hx9:xs.length≤943718400:=by
   have h1:=HLL.out j (by rw [List.length_map];exact hj)
   have h3:x.items.map VM.d=(x.items.map VM.d).take j++(x.items.map VM.d).drop j:=(List.take_append_drop ..).symm
   have h4:Val.sizes ((x.items.map VM.d).take j)≤Val.sizes (x.items.map VM.d):=by
    conv=> rhs;rw [h3]
    rw [Val.sizes_append];omega
   have:=HSZ.out
   omega
  clear hown hb
  by_cases hlt:j < x.items.length
  ·obtain ⟨k',hk1,hk2,hk3⟩:=HIT.out j hlt
   obtain ⟨A5,c5,A6,c6,e5,e6⟩:=HSL.out j hlt
   obtain ⟨bi,fi,rfl,hbi,i0',i1',i2'⟩:=HIC.out j hlt
   have hbiw:bi < w.heap.size:=by omega
   rw [e5] at i1'
   rw [e6] at i2'
   have hC1:=HC.out j hlt
   rw [hk1] at hC1
   have HC1:=Lib.hid hC1
   have HP1:=HP.out j hlt k' hk2 hk3
   unfold vmV at HP1
   rw [e5,e6] at HP1
   have HP1:=Lib.hid HP1
   obtain ⟨hk4,hk5⟩:=HLK.out j hlt k' hk2 hk3
   have HTK:=Lib.hid (lenVs_take (D:=L.map RM.d) (r:=L[k].d) (n:=x.n) (l:=x.items.map VM.d) (m:=j) (by rw [List.length_map];exact hlt))
   have j0:=cell_keep i0' (bw.mono hB) hbi
   have j1:=cell_keep i1' (bw.mono hB) hbi
   have j2:=cell_keep i2' (bw.mono hB) hbi
   have HLT:=Lib.hid HOW.out.lt
   have bq:=(Below.refl wr.heap.size wr).drew
   have bw:=bw.drew
   have HK1:=Lib.hid hk1
   clear hC1 hk1 hk3 e5 e6 i0' i1' i2' v1 hx hvx h hxl
   go_wp2_with fail
   refine wp_region_held_drew (S:=(fun w9=> w9.cell? ⟨w.heap.size,0,none⟩=some (.slice (some ⟨b0,off,none⟩) L.length c)∧w9.cell? ⟨W0.heap.size,0,none⟩=some (.string L[k].d.name)∧w9.cell? ⟨W0.heap.size,1,none⟩=some (.int .i64 L[k].d.kind)∧w9.cell? ⟨W0.heap.size,2,none⟩=some (.int .i64 L[k].d.size)∧w9.cell? ⟨W0.heap.size,3,none⟩=some (.bool L[k].d.little)∧w9.cell? ⟨W0.heap.size,4,none⟩=some (.slice A1 L[k].d.bytes.length c1)∧w9.cell? ⟨W0.heap.size,5,none⟩=some (.slice A2 L[k].d.names.length c2)∧w9.cell? ⟨W0.heap.size,6,none⟩=some (.slice A3 L[k].d.tags.length c3)∧w9.cell? ⟨W0.heap.size,7,none⟩=some (.slice A4 L[k].d.kids.length c4)∧w9.cell? ⟨w.heap.size+1,0,none⟩=some (.int .i64 x.n)∧w9.cell? ⟨w.heap.size+1,2,none⟩=some (.slice (some ⟨bi,fi,none⟩) x.items.length cy)∧w9.cell? ⟨bi,fi+j*3,none⟩=some (.int .i64 x.items[j].n)∧w9.cell? ⟨bi,fi+j*3+1,none⟩=some (.slice A5 x.items[j].b.length c5)∧w9.cell? ⟨bi,fi+j*3+2,none⟩=some (.slice A6 x.items[j].items.length c6))) (by kernel_rfl) ?_ (fun hHeld=> ?_)
   ·(try dsimp only);exact ⟨s0,t0,t1,t2,t3,t4,t5,t6,t7,v0,v2,j0,j1,j2⟩
   refine rgTake 0 (some 24) hHeld _ ?_;try go_frame
   refine rgTake 1 (some 25) hHeld _ ?_;try go_frame
   refine rgTake 2 (some 26) hHeld _ ?_;try go_frame
   refine rgTake 3 (some 27) hHeld _ ?_;try go_frame
   refine rgTake 4 (some 28) hHeld _ ?_;try go_frame
   refine rgTake 5 (some 29) hHeld _ ?_;try go_frame
   refine rgTake 7 (some 31) hHeld _ ?_;try go_frame
   refine rgTake 8 (some 32) hHeld _ ?_;try go_frame
   refine rgTake 9 (some 33) hHeld _ ?_;try go_frame
   refine rgTake 10 (some 34) hHeld _ ?_;try go_frame
   refine rgTake 11 (some 35) hHeld _ ?_;try go_frame
   refine rgStep 6 (fun K hK=> ?_)
   go_simp
   refine (HC1.out _ bw).mono ?_;rintro e w6 ⟨rfl,bel6⟩;have bq:=below_step bel6 bq;have bw:=below_step bel6 bw
   (try go_wp2_with fail)
   refine hK.out _ _ ?_ (fun hHeld=> ?_)
   ·(try dsimp only);first|exact ⟨cell_rowQ hg9 (cell_later bq s0) (fun e=> by have:=HLT.out _ e;omega),cell_rowQ hg9 (cell_later bq t0) (fun e=> by have:=HLT.out _ e;omega),cell_rowQ hg9 (cell_later bq t1) (fun e=> by have:=HLT.out _ e;omega),cell_rowQ hg9 (cell_later bq t2) (fun e=> by have:=HLT.out _ e;omega),cell_rowQ hg9 (cell_later bq t3) (fun e=> by have:=HLT.out _ e;omega),cell_rowQ hg9 (cell_later bq t4) (fun e=> by have:=HLT.out _ e;omega),cell_rowQ hg9 (cell_later bq t5) (fun e=> by have:=HLT.out _ e;omega),cell_rowQ hg9 (cell_later bq t6) (fun e=> by have:=HLT.out _ e;omega),cell_rowQ hg9 (cell_later bq t7) (fun e=> by have:=HLT.out _ e;omega),cell_rowQ hg9 (cell_later bq v0) (fun e=> by have:=HLT.out _ e;omega),cell_rowQ hg9 (cell_later bq v2) (fun e=> by have:=HLT.out _ e;omega),cell_rowQ hg9 (cell_later bq j0) (fun e=> by have:=HLT.out _ e;omega),cell_rowQ hg9 (cell_later bq j1) (fun e=> by have:=HLT.out _ e;omega),cell_rowQ hg9 (cell_later bq j2) (fun e=> by have:=HLT.out _ e;omega)⟩|exact ⟨cell_later bq s0,cell_later bq t0,cell_later bq t1,cell_later bq t2,cell_later bq t3,cell_later bq t4,cell_later bq t5,cell_later bq t6,cell_later bq t7,cell_later bq v0,cell_later bq v2,cell_later bq j0,cell_later bq j1,cell_later bq j2⟩
   clear hK K
   try go_frame
   refine rgStep 12 (fun K hK=> ?_)
   go_simp
   refine (HP1.out _ bw).mono ?_;rintro e w8 ⟨u2,ys,rfl,hyl,own8,bel8⟩;have hz78:=bq.size;have bq:=below_step bel8 bq;have bw:=below_step bel8 bw;have HQ:=Lib.hid own8;have hy9:ys.length≤943719300:=(by omega);have HYL:=Lib.hid hyl;clear own8 hyl;have HO8:=Lib.hid (own_below HOW.out bq (Nat.le_refl _));have hbz8:=bq.size
   (try go_wp2_with fail)
   refine hK.out _ _ ?_ (fun hHeld=> ?_)
   ·(try dsimp only);first|exact ⟨cell_rowQ hg9 (cell_later bq s0) (fun e=> by have:=HLT.out _ e;omega),cell_rowQ hg9 (cell_later bq t0) (fun e=> by have:=HLT.out _ e;omega),cell_rowQ hg9 (cell_later bq t1) (fun e=> by have:=HLT.out _ e;omega),cell_rowQ hg9 (cell_later bq t2) (fun e=> by have:=HLT.out _ e;omega),cell_rowQ hg9 (cell_later bq t3) (fun e=> by have:=HLT.out _ e;omega),cell_rowQ hg9 (cell_later bq t4) (fun e=> by have:=HLT.out _ e;omega),cell_rowQ hg9 (cell_later bq t5) (fun e=> by have:=HLT.out _ e;omega),cell_rowQ hg9 (cell_later bq t6) (fun e=> by have:=HLT.out _ e;omega),cell_rowQ hg9 (cell_later bq t7) (fun e=> by have:=HLT.out _ e;omega),cell_rowQ hg9 (cell_later bq v0) (fun e=> by have:=HLT.out _ e;omega),cell_rowQ hg9 (cell_later bq v2) (fun e=> by have:=HLT.out _ e;omega),cell_rowQ hg9 (cell_later bq j0) (fun e=> by have:=HLT.out _ e;omega),cell_rowQ hg9 (cell_later bq j1) (fun e=> by have:=HLT.out _ e;omega),cell_rowQ hg9 (cell_later bq j2) (fun e=> by have:=HLT.out _ e;omega)⟩|exact ⟨cell_later bq s0,cell_later bq t0,cell_later bq t1,cell_later bq t2,cell_later bq t3,cell_later bq t4,cell_later bq t5,cell_later bq t6,cell_later bq t7,cell_later bq v0,cell_later bq v2,cell_later bq j0,cell_later bq j1,cell_later bq j2⟩
   clear hK K
   try go_frame
   refine rgStep 13 (fun K hK=> ?_)
   refine wp_app _ (.tmp 24) (.tmp 36) 22 rfl W1.heap.size 5 i0 (.int .u8 0) 1 1 Tryd.underlying22 hi hz0 hz1 hz2 rfl (by decide) _ xs.length _ rfl (by exact HO8.out) _ ys.length _ (u8s ys) rfl (by exact Sl.of_own HQ.out) (u8s_one _) (by omega) (by unfold maxLen;omega) (by omega) ?_;intro v9 w9 own9 hg9 _;obtain ⟨A9,c9,rfl⟩:=own_slice own9
   refine hK.out _ _ ?_ (fun hHeld=> ?_)
   ·(try dsimp only);first|exact ⟨cell_rowQ hg9 (cell_later bq s0) (fun e=> by have:=HLT.out _ e;omega),cell_rowQ hg9 (cell_later bq t0) (fun e=> by have:=HLT.out _ e;omega),cell_rowQ hg9 (cell_later bq t1) (fun e=> by have:=HLT.out _ e;omega),cell_rowQ hg9 (cell_later bq t2) (fun e=> by have:=HLT.out _ e;omega),cell_rowQ hg9 (cell_later bq t3) (fun e=> by have:=HLT.out _ e;omega),cell_rowQ hg9 (cell_later bq t4) (fun e=> by have:=HLT.out _ e;omega),cell_rowQ hg9 (cell_later bq t5) (fun e=> by have:=HLT.out _ e;omega),cell_rowQ hg9 (cell_later bq t6) (fun e=> by have:=HLT.out _ e;omega),cell_rowQ hg9 (cell_later bq t7) (fun e=> by have:=HLT.out _ e;omega),cell_rowQ hg9 (cell_later bq v0) (fun e=> by have:=HLT.out _ e;omega),cell_rowQ hg9 (cell_later bq v2) (fun e=> by have:=HLT.out _ e;omega),cell_rowQ hg9 (cell_later bq j0) (fun e=> by have:=HLT.out _ e;omega),cell_rowQ hg9 (cell_later bq j1) (fun e=> by have:=HLT.out _ e;omega),cell_rowQ hg9 (cell_later bq j2) (fun e=> by have:=HLT.out _ e;omega)⟩|exact ⟨cell_later bq s0,cell_later bq t0,cell_later bq t1,cell_later bq t2,cell_later bq t3,cell_later bq t4,cell_later bq t5,cell_later bq t6,cell_later bq t7,cell_later bq v0,cell_later bq v2,cell_later bq j0,cell_later bq j1,cell_later bq j2⟩
   clear hK K
   try go_frame
   refine rgTake 14 (some 8) hHeld _ ?_;try go_frame
   refine wpAnyH_done (by kernel_rfl) ?_ _
   have hbf:Below W1.heap.size W1 w9:=(HB.out.1.trans (bq.mono hsz)).grown hg9 (by omega) fun q e=> (HLT.out q e).1
   rw [←u8s_append] at own9
   have HF:=Lib.hid (And.intro own9 hbf)
   clear own9 hg9 hbf bq bw s0 v0 v2 t0 t1 t2 t3 t4 t5 t6 t7 j0 j1 j2 HO8 HQ hHeld
   go_wp2
   go_roundw
   case rel=>
    refine ⟨j+1,xs++ys,by omega,by go_num,?_,by simpa using HF.out.1,HF.out.2⟩
    rw [HTK.out,←HXL.out,HK1.out,List.getElem_map,List.length_append,HYL.out]
    omega
   case measure=> simp [intOf];omega
  ·obtain rfl:j=x.items.length:=by omega
   have hxl2:(xs.length:Int)=lenVs (L.map RM.d) L[k].d x.n 0 (x.items.map VM.d):=by
    rw [hxl,List.take_of_length_le (by rw [List.length_map];omega)]
   have HXL:=Lib.hid hxl2
   have hvv:=HLV.out
   have how:=hvx
   rw [validV_at (by rw [hlm];exact hk),Bool.and_eq_true,List.getElem_map,VM.n_d,VM.b_d,VM.items_d] at how
   have hf:=(validD_facts hv).2 k (by rw [hlm];exact hk)
   rw [List.getElem_map] at hf
   have hI8:L[k].d.kind=1→∀W,Below w.heap.size w W→Calls Tryd.prog 82 #[rmV L[k], .int .i64 x.n] W (MadeN L[k].d.size.toNat W):=fun q W hb=> by
    have ho:=how.1
    rw [own_1 q] at ho
    simp only [Bool.and_eq_true] at ho
    have h1:=inB_iff.1 ho.1
    have h2:=hf.c1 q
    exact l8Integer_any L[k] x.n B W ((h.2 _ (List.getElem_mem hk)).below (hb.mono hB)) h2.1 h2.2 h1.1 h1.2
   unfold rmV at hI8
   rw [e1,e2,e3,e4] at hI8
   have HI8:=Lib.hid hI8
   have hSB:∀W,Below w.heap.size w W→SlB W B (.slice A1 L[k].d.bytes.length c1) L[k].d.bytes:=fun W hb=> by
    have:=((h.2 _ (List.getElem_mem hk)).below (hb.mono hB)).b
    rwa [e1] at this
   have hVB:∀W,Below w.heap.size w W→SlB W B (.slice Ax x.b.length cx) x.b:=fun W hb=> by
    have:=(hx.bel (hb.mono hB)).bytes
    rwa [ex] at this
   have HSB:=Lib.hid hSB
   have HVB:=Lib.hid hVB
   have HH:=Lib.hid h
   have HE4:=Lib.hid e4
   clear hSB hVB
   have HOWN:=Lib.hid how.1
   have HF0:=Lib.hid hf
   clear hI8 how hf
   clear HXL hxl HIT HC HP HSL HIC hx hvx h HNN HLL HLK
   rw [←hxl2] at hvv
   have hW1w:w.heap.size≤W1.heap.size:=by omega
   rcases kind_cases hkind with q|q|q|q|q|q|q|q|q|q
   ·have HF:Hid (lenV (L.map RM.d) k x.d=L[k].d.size):=Lib.hid (by rw [hvv];simp only [lenR,q];simp)
    have HI:=HI8.out q
    rw [q] at t1 HI
    have HI:=Lib.hid HI
    clear hvv hxl2 HI8
    go_wp2_with fail
    refine (HI.out _ HB.out.2).mono ?_
    rintro e w3 ⟨u,ys,rfl,hyl,ho,hb3⟩
    have H3:=Lib.hid (And.intro (own_base ho HB.out.2.size) (below_step hb3 HB.out.2))
    clear ho hb3
    go_wp2
    go_ret
    exact ⟨u,ys,rfl,by rw [hyl,HF.out],H3.out.1,H3.out.2⟩
   ·have HF:Hid (lenV (L.map RM.d) k x.d=L[k].d.bytes.length):=Lib.hid (by rw [hvv];simp only [lenR,q];simp)
    have hm16:L[k].d.bytes.length≤1000:=by
     have:=HF0.out.c2 q;omega
    have hbz:=HB.out.2.size
    rw [q] at t1
    have fz:=cell_later ((Below.refl wr.heap.size wr).alloc (Nat.le_refl _) (.cells #[] 5)) t4
    clear hvv hxl2 HI8
    go_wp2_with (at_builtin;refine wpList_app _ rfl (.tmp 48) (.tmp 50) 22 rfl wr.heap.size 5 i0 (.int .u8 0) 1 1 Tryd.underlying22 hi hz0 hz1 hz2 rfl (by decide) _ ([]:List UInt8).length _ rfl (own_empty _ _ _) _ L[k].d.bytes.length _ (u8s L[k].d.bytes) rfl (HSB.out _ (HB.out.2.alloc hbz _)) (u8s_one _) (by simp;omega) (by unfold maxLen;simp;omega) (by simp) ?_;intro v2 w2 own2 hg2 _)
    have hbf:Below w.heap.size w w2:=(HB.out.2.alloc hbz _).grown hg2 (by simp;omega) fun t e=> by cases e;exact hbz
    have H2:=Lib.hid (And.intro (own_base own2 hbz) hbf)
    clear own2 hg2 hbf
    go_wp2
    go_ret
    exact ⟨_,L[k].d.bytes,rfl,by rw [HF.out];rfl,by simpa using H2.out.1,H2.out.2⟩
   ·have HF:Hid (lenV (L.map RM.d) k x.d=x.b.length):=Lib.hid (by rw [hvv];simp only [lenR,q];simp)
    have hm16:x.b.length≤1000:=by
     have h0:=HOWN.out;have h1:=HF0.out.size;rw [own_3 q] at h0;simp at h0;omega
    have hbz:=HB.out.2.size
    rw [q] at t1
    have fz:=cell_later ((Below.refl wr.heap.size wr).alloc (Nat.le_refl _) (.cells #[] 5)) v1
    clear hvv hxl2 HI8
    go_wp2_with (at_builtin;refine wpList_app _ rfl (.tmp 164) (.tmp 166) 22 rfl wr.heap.size 5 i0 (.int .u8 0) 1 1 Tryd.underlying22 hi hz0 hz1 hz2 rfl (by decide) _ ([]:List UInt8).length _ rfl (own_empty _ _ _) _ x.b.length _ (u8s x.b) rfl (HVB.out _ (HB.out.2.alloc hbz _)) (u8s_one _) (by simp;omega) (by unfold maxLen;simp;omega) (by simp) ?_;intro v2 w2 own2 hg2 _)
    have hbf:Below w.heap.size w w2:=(HB.out.2.alloc hbz _).grown hg2 (by simp;omega) fun t e=> by cases e;exact hbz
    have H2:=Lib.hid (And.intro (own_base own2 hbz) hbf)
    clear own2 hg2 hbf
    go_wp2
    go_ret
    exact ⟨_,x.b,rfl,by rw [HF.out];rfl,by simpa using H2.out.1,H2.out.2⟩
   ·have h4:=HF0.out.c4 q
    have ho:=HOWN.out
    rw [own_4 q] at ho
    simp only [Bool.and_eq_true,decide_eq_true_eq] at ho
    obtain ⟨k0,hk0,hkk,ek0,es0,hs1,hs4,hlim⟩:=fldL hv hk (by omega) (by omega)
    obtain ⟨bk,ok,rfl,hbk,hkc⟩:=fld_cells HH.out hk (by omega) HE4.out
    rw [ek0] at hkc
    obtain ⟨b1,o1,A5,c5,A6,c6,A7,c7,A8,c8,e',hb1B,f1,f2,f3,f4, -, -, -, -,hcell1⟩:=rule_cells HH.out k0 hk0
    obtain ⟨rfl,rfl⟩:b1=b0∧o1=off:=by simp only [Option.some.injEq,Addr.mk.injEq] at e';exact ⟨e'.1.symm,e'.2.1.symm⟩
    obtain ⟨y0,y1,y2,y3,y4,y5,y6,y7⟩:=hcell1 wr (below_cells HB.out.2 hB)
    have hkc:=cell_keep hkc (HB.out.2.mono hB) hbk
    have hbkw:bk < w.heap.size:=by omega
    have hpw:pow8 L[k0].d.size≤4294967296:=by unfold pow8;repeat' split <;> omega
    have HF:Hid (lenV (L.map RM.d) k x.d=L[k0].d.size+x.b.length):=Lib.hid (by rw [hvv];simp only [lenR,q];simp [es0])
    have hI:∀W,Below w.heap.size w W→Calls Tryd.prog 82 #[.agg #[.string L[k0].d.name, .int .i64 L[k0].d.kind, .int .i64 L[k0].d.size, .bool L[k0].d.little, .slice A5 L[k0].d.bytes.length c5, .slice A6 L[k0].d.names.length c6, .slice A7 L[k0].d.tags.length c7, .slice A8 L[k0].d.kids.length c8], .int .i64 (x.b.length:Int)] W (MadeN L[k0].d.size.toNat W):=fun W hb=> by
     have:=l8Integer_any L[k0] (x.b.length:Int) B W ((HH.out.2 _ (List.getElem_mem hk0)).below (hb.mono hB)) hs1 hs4 (by omega) (by omega)
     unfold rmV at this
     rw [f1,f2,f3,f4] at this
     exact this
    have HI:=Lib.hid hI
    have HSZ0:=Lib.hid hs1
    rw [q] at t1
    have bq:=(Below.refl wr.heap.size wr).drew
    have bw:=HB.out.2.drew
    have hbz:=HB.out.2.size
    clear hvv hxl2 HI8 hI es0 hlim ek0 hcell1 f1 f2 f3 f4 e' hpw
    go_wp2_with fail
    refine wp_region_held_drew (S:=(fun w9=> w9.cell? ⟨w.heap.size,0,none⟩=some (.slice (some ⟨b1,o1,none⟩) L.length c)∧w9.cell? ⟨W0.heap.size,7,none⟩=some (.slice (some ⟨bk,ok,none⟩) L[k].d.kids.length c4)∧w9.cell? ⟨bk,ok,none⟩=some (.int .i64 k0)∧w9.cell? ⟨b1,o1+k0*8,none⟩=some (.string L[k0].d.name)∧w9.cell? ⟨b1,o1+k0*8+1,none⟩=some (.int .i64 L[k0].d.kind)∧w9.cell? ⟨b1,o1+k0*8+2,none⟩=some (.int .i64 L[k0].d.size)∧w9.cell? ⟨b1,o1+k0*8+3,none⟩=some (.bool L[k0].d.little)∧w9.cell? ⟨b1,o1+k0*8+4,none⟩=some (.slice A5 L[k0].d.bytes.length c5)∧w9.cell? ⟨b1,o1+k0*8+5,none⟩=some (.slice A6 L[k0].d.names.length c6)∧w9.cell? ⟨b1,o1+k0*8+6,none⟩=some (.slice A7 L[k0].d.tags.length c7)∧w9.cell? ⟨b1,o1+k0*8+7,none⟩=some (.slice A8 L[k0].d.kids.length c8)∧w9.cell? ⟨w.heap.size+1,1,none⟩=some (.slice Ax x.b.length cx))) (by kernel_rfl) ?_ (fun hHeld=> ?_)
    ·(try dsimp only);exact ⟨s0,t7,hkc,y0,y1,y2,y3,y4,y5,y6,y7,v1⟩
    refine rgTake 0 (some 54) hHeld _ ?_;try go_frame
    refine rgTake 1 (some 55) hHeld _ ?_;try go_frame
    refine rgTake 2 (some 56) hHeld _ ?_;try go_frame
    refine rgTake 3 (some 57) hHeld _ ?_;try go_frame
    refine rgTake 4 (some 58) hHeld _ ?_;try go_frame
    refine rgTake 5 (some 59) hHeld _ ?_;try go_frame
    refine rgTake 6 (some 60) hHeld _ ?_;try go_frame
    refine rgTake 7 (some 61) hHeld _ ?_;try go_frame
    refine rgTake 8 (some 62) hHeld _ ?_;try go_frame
    refine rgTake 9 (some 63) hHeld _ ?_;try go_frame
    refine rgTake 10 (some 64) hHeld _ ?_;try go_frame
    refine rgTake 12 (some 66) hHeld _ ?_;try go_frame
    refine rgTake 13 (some 67) hHeld _ ?_;try go_frame
    refine rgStep 11 (fun K hK=> ?_)
    go_simp
    refine (HI.out _ bw).mono ?_;rintro e w3 ⟨u,ys,rfl,hyl,own3,bel3⟩;have HYL:=Lib.hid hyl;have hy4:ys.length≤4:=(by omega);clear hyl;have HQ:=Lib.hid (own_base own3 bq.size);have bq:=below_step bel3 bq;have bw:=below_step bel3 bw;have hqz:=bq.size;have HLT:=Lib.hid HQ.out.lt;clear own3 bel3
    (try go_wp2_with fail)
    refine hK.out _ _ ?_ (fun hHeld=> ?_)
    ·(try dsimp only);first|exact ⟨cell_rowQ hg9 (cell_later bq s0) (fun e=> by have:=HLT.out _ e;omega),cell_rowQ hg9 (cell_later bq t7) (fun e=> by have:=HLT.out _ e;omega),cell_rowQ hg9 (cell_later bq hkc) (fun e=> by have:=HLT.out _ e;omega),cell_rowQ hg9 (cell_later bq y0) (fun e=> by have:=HLT.out _ e;omega),cell_rowQ hg9 (cell_later bq y1) (fun e=> by have:=HLT.out _ e;omega),cell_rowQ hg9 (cell_later bq y2) (fun e=> by have:=HLT.out _ e;omega),cell_rowQ hg9 (cell_later bq y3) (fun e=> by have:=HLT.out _ e;omega),cell_rowQ hg9 (cell_later bq y4) (fun e=> by have:=HLT.out _ e;omega),cell_rowQ hg9 (cell_later bq y5) (fun e=> by have:=HLT.out _ e;omega),cell_rowQ hg9 (cell_later bq y6) (fun e=> by have:=HLT.out _ e;omega),cell_rowQ hg9 (cell_later bq y7) (fun e=> by have:=HLT.out _ e;omega),cell_rowQ hg9 (cell_later bq v1) (fun e=> by have:=HLT.out _ e;omega)⟩|exact ⟨cell_later bq s0,cell_later bq t7,cell_later bq hkc,cell_later bq y0,cell_later bq y1,cell_later bq y2,cell_later bq y3,cell_later bq y4,cell_later bq y5,cell_later bq y6,cell_later bq y7,cell_later bq v1⟩
    clear hK K
    try go_frame
    refine rgStep 14 (fun K hK=> ?_)
    refine wp_app _ (.tmp 65) (.tmp 67) 22 rfl wr.heap.size 5 i0 (.int .u8 0) 1 1 Tryd.underlying22 hi hz0 hz1 hz2 rfl (by decide) _ ys.length _ rfl (by exact HQ.out) _ x.b.length _ (u8s x.b) rfl (by exact HVB.out _ bw) (u8s_one _) (by omega) (by unfold maxLen;omega) (by omega) ?_;intro v9 w9 own9 hg9 _;obtain ⟨A9,c9,rfl⟩:=own_slice own9
    refine hK.out _ _ ?_ (fun hHeld=> ?_)
    ·(try dsimp only);first|exact ⟨cell_rowQ hg9 (cell_later bq s0) (fun e=> by have:=HLT.out _ e;omega),cell_rowQ hg9 (cell_later bq t7) (fun e=> by have:=HLT.out _ e;omega),cell_rowQ hg9 (cell_later bq hkc) (fun e=> by have:=HLT.out _ e;omega),cell_rowQ hg9 (cell_later bq y0) (fun e=> by have:=HLT.out _ e;omega),cell_rowQ hg9 (cell_later bq y1) (fun e=> by have:=HLT.out _ e;omega),cell_rowQ hg9 (cell_later bq y2) (fun e=> by have:=HLT.out _ e;omega),cell_rowQ hg9 (cell_later bq y3) (fun e=> by have:=HLT.out _ e;omega),cell_rowQ hg9 (cell_later bq y4) (fun e=> by have:=HLT.out _ e;omega),cell_rowQ hg9 (cell_later bq y5) (fun e=> by have:=HLT.out _ e;omega),cell_rowQ hg9 (cell_later bq y6) (fun e=> by have:=HLT.out _ e;omega),cell_rowQ hg9 (cell_later bq y7) (fun e=> by have:=HLT.out _ e;omega),cell_rowQ hg9 (cell_later bq v1) (fun e=> by have:=HLT.out _ e;omega)⟩|exact ⟨cell_later bq s0,cell_later bq t7,cell_later bq hkc,cell_later bq y0,cell_later bq y1,cell_later bq y2,cell_later bq y3,cell_later bq y4,cell_later bq y5,cell_later bq y6,cell_later bq y7,cell_later bq v1⟩
    clear hK K
    try go_frame
    refine rgTake 15 (some 6) hHeld _ ?_;try go_frame
    refine wpAnyH_done (by kernel_rfl) ?_ _
    have hbf:Below w.heap.size w w9:=bw.grown hg9 (by omega) fun t e=> by have:=HLT.out t e;omega
    rw [←u8s_append] at own9
    have H2:=Lib.hid (And.intro (own_base own9 hbz) hbf)
    clear own9 hg9 hbf bq bw s0 v0 v2 t0 t1 t2 t3 t4 t5 t6 t7 hkc y0 y1 y2 y3 y4 y5 y6 y7 hHeld
    go_wp2
    go_ret
    exact ⟨_,ys++x.b,rfl,by rw [HF.out,List.length_append,HYL.out];have:=HSZ0.out;omega,by simpa using H2.out.1,H2.out.2⟩
   ·have h4:=HF0.out.c5 q
    have ho:=HOWN.out
    rw [own_5 q] at ho
    simp only [Bool.and_eq_true,decide_eq_true_eq,List.length_map] at ho
    obtain ⟨k0,hk0,hkk,ek0,es0,hs1,hs4,hlim⟩:=fldL hv hk (by omega) (by omega)
    obtain ⟨bk,ok,rfl,hbk,hkc⟩:=fld_cells HH.out hk (by omega) HE4.out
    rw [ek0] at hkc
    obtain ⟨b1,o1,A5,c5,A6,c6,A7,c7,A8,c8,e',hb1B,f1,f2,f3,f4, -, -, -, -,hcell1⟩:=rule_cells HH.out k0 hk0
    obtain ⟨rfl,rfl⟩:b1=b0∧o1=off:=by simp only [Option.some.injEq,Addr.mk.injEq] at e';exact ⟨e'.1.symm,e'.2.1.symm⟩
    obtain ⟨y0,y1,y2,y3,y4,y5,y6,y7⟩:=hcell1 wr (below_cells HB.out.2 hB)
    have hkc:=cell_keep hkc (HB.out.2.mono hB) hbk
    have hbkw:bk < w.heap.size:=by omega
    have hpw:pow8 L[k0].d.size≤4294967296:=by unfold pow8;repeat' split <;> omega
    have HF:Hid (lenV (L.map RM.d) k x.d=L[k0].d.size+xs.length):=Lib.hid (by rw [hvv];simp only [lenR,q];simp [es0])
    have hI:∀W,Below w.heap.size w W→Calls Tryd.prog 82 #[.agg #[.string L[k0].d.name, .int .i64 L[k0].d.kind, .int .i64 L[k0].d.size, .bool L[k0].d.little, .slice A5 L[k0].d.bytes.length c5, .slice A6 L[k0].d.names.length c6, .slice A7 L[k0].d.tags.length c7, .slice A8 L[k0].d.kids.length c8], .int .i64 (x.items.length:Int)] W (MadeN L[k0].d.size.toNat W):=fun W hb=> by
     have:=l8Integer_any L[k0] (x.items.length:Int) B W ((HH.out.2 _ (List.getElem_mem hk0)).below (hb.mono hB)) hs1 hs4 (by omega) (by omega)
     unfold rmV at this
     rw [f1,f2,f3,f4] at this
     exact this
    have HI:=Lib.hid hI
    have HSZ0:=Lib.hid hs1
    rw [q] at t1
    have bq:=(Below.refl wr.heap.size wr).drew
    have bw:=HB.out.2.drew
    have hbz:=HB.out.2.size
    clear hvv hxl2 HI8 hI es0 hlim ek0 hcell1 f1 f2 f3 f4 e' hpw
    go_wp2_with fail
    refine wp_region_held_drew (S:=(fun w9=> w9.cell? ⟨w.heap.size,0,none⟩=some (.slice (some ⟨b1,o1,none⟩) L.length c)∧w9.cell? ⟨W0.heap.size,7,none⟩=some (.slice (some ⟨bk,ok,none⟩) L[k].d.kids.length c4)∧w9.cell? ⟨bk,ok,none⟩=some (.int .i64 k0)∧w9.cell? ⟨b1,o1+k0*8,none⟩=some (.string L[k0].d.name)∧w9.cell? ⟨b1,o1+k0*8+1,none⟩=some (.int .i64 L[k0].d.kind)∧w9.cell? ⟨b1,o1+k0*8+2,none⟩=some (.int .i64 L[k0].d.size)∧w9.cell? ⟨b1,o1+k0*8+3,none⟩=some (.bool L[k0].d.little)∧w9.cell? ⟨b1,o1+k0*8+4,none⟩=some (.slice A5 L[k0].d.bytes.length c5)∧w9.cell? ⟨b1,o1+k0*8+5,none⟩=some (.slice A6 L[k0].d.names.length c6)∧w9.cell? ⟨b1,o1+k0*8+6,none⟩=some (.slice A7 L[k0].d.tags.length c7)∧w9.cell? ⟨b1,o1+k0*8+7,none⟩=some (.slice A8 L[k0].d.kids.length c8)∧w9.cell? ⟨w.heap.size+1,2,none⟩=some (.slice Ay x.items.length cy))) (by kernel_rfl) ?_ (fun hHeld=> ?_)
    ·(try dsimp only);exact ⟨s0,t7,hkc,y0,y1,y2,y3,y4,y5,y6,y7,v2⟩
    refine rgTake 0 (some 71) hHeld _ ?_;try go_frame
    refine rgTake 1 (some 72) hHeld _ ?_;try go_frame
    refine rgTake 2 (some 73) hHeld _ ?_;try go_frame
    refine rgTake 3 (some 74) hHeld _ ?_;try go_frame
    refine rgTake 4 (some 75) hHeld _ ?_;try go_frame
    refine rgTake 5 (some 76) hHeld _ ?_;try go_frame
    refine rgTake 6 (some 77) hHeld _ ?_;try go_frame
    refine rgTake 7 (some 78) hHeld _ ?_;try go_frame
    refine rgTake 8 (some 79) hHeld _ ?_;try go_frame
    refine rgTake 9 (some 80) hHeld _ ?_;try go_frame
    refine rgTake 10 (some 81) hHeld _ ?_;try go_frame
    refine rgTake 12 (some 83) hHeld _ ?_;try go_frame
    refine rgStep 11 (fun K hK=> ?_)
    go_simp
    refine (HI.out _ bw).mono ?_;rintro e w3 ⟨u,ys,rfl,hyl,own3,bel3⟩;have HYL:=Lib.hid hyl;have hy4:ys.length≤4:=(by omega);clear hyl;have HQ:=Lib.hid (own_base own3 bq.size);have bq:=below_step bel3 bq;have bw:=below_step bel3 bw;have hqz:=bq.size;have HLT:=Lib.hid HQ.out.lt;clear own3 bel3
    (try go_wp2_with fail)
    refine hK.out _ _ ?_ (fun hHeld=> ?_)
    ·(try dsimp only);first|exact ⟨cell_rowQ hg9 (cell_later bq s0) (fun e=> by have:=HLT.out _ e;omega),cell_rowQ hg9 (cell_later bq t7) (fun e=> by have:=HLT.out _ e;omega),cell_rowQ hg9 (cell_later bq hkc) (fun e=> by have:=HLT.out _ e;omega),cell_rowQ hg9 (cell_later bq y0) (fun e=> by have:=HLT.out _ e;omega),cell_rowQ hg9 (cell_later bq y1) (fun e=> by have:=HLT.out _ e;omega),cell_rowQ hg9 (cell_later bq y2) (fun e=> by have:=HLT.out _ e;omega),cell_rowQ hg9 (cell_later bq y3) (fun e=> by have:=HLT.out _ e;omega),cell_rowQ hg9 (cell_later bq y4) (fun e=> by have:=HLT.out _ e;omega),cell_rowQ hg9 (cell_later bq y5) (fun e=> by have:=HLT.out _ e;omega),cell_rowQ hg9 (cell_later bq y6) (fun e=> by have:=HLT.out _ e;omega),cell_rowQ hg9 (cell_later bq y7) (fun e=> by have:=HLT.out _ e;omega),cell_rowQ hg9 (cell_later bq v2) (fun e=> by have:=HLT.out _ e;omega)⟩|exact ⟨cell_later bq s0,cell_later bq t7,cell_later bq hkc,cell_later bq y0,cell_later bq y1,cell_later bq y2,cell_later bq y3,cell_later bq y4,cell_later bq y5,cell_later bq y6,cell_later bq y7,cell_later bq v2⟩
    clear hK K
    try go_frame
    refine rgStep 13 (fun K hK=> ?_)
    refine wp_app _ (.tmp 82) (.tmp 83) 22 rfl wr.heap.size 5 i0 (.int .u8 0) 1 1 Tryd.underlying22 hi hz0 hz1 hz2 rfl (by decide) _ ys.length _ rfl (by exact HQ.out) _ xs.length _ (u8s xs) rfl (by exact Sl.of_own (own_below HOW.out bq (Nat.le_refl _))) (u8s_one _) (by omega) (by unfold maxLen;omega) (by omega) ?_;intro v9 w9 own9 hg9 _;obtain ⟨A9,c9,rfl⟩:=own_slice own9
    refine hK.out _ _ ?_ (fun hHeld=> ?_)
    ·(try dsimp only);first|exact ⟨cell_rowQ hg9 (cell_later bq s0) (fun e=> by have:=HLT.out _ e;omega),cell_rowQ hg9 (cell_later bq t7) (fun e=> by have:=HLT.out _ e;omega),cell_rowQ hg9 (cell_later bq hkc) (fun e=> by have:=HLT.out _ e;omega),cell_rowQ hg9 (cell_later bq y0) (fun e=> by have:=HLT.out _ e;omega),cell_rowQ hg9 (cell_later bq y1) (fun e=> by have:=HLT.out _ e;omega),cell_rowQ hg9 (cell_later bq y2) (fun e=> by have:=HLT.out _ e;omega),cell_rowQ hg9 (cell_later bq y3) (fun e=> by have:=HLT.out _ e;omega),cell_rowQ hg9 (cell_later bq y4) (fun e=> by have:=HLT.out _ e;omega),cell_rowQ hg9 (cell_later bq y5) (fun e=> by have:=HLT.out _ e;omega),cell_rowQ hg9 (cell_later bq y6) (fun e=> by have:=HLT.out _ e;omega),cell_rowQ hg9 (cell_later bq y7) (fun e=> by have:=HLT.out _ e;omega),cell_rowQ hg9 (cell_later bq v2) (fun e=> by have:=HLT.out _ e;omega)⟩|exact ⟨cell_later bq s0,cell_later bq t7,cell_later bq hkc,cell_later bq y0,cell_later bq y1,cell_later bq y2,cell_later bq y3,cell_later bq y4,cell_later bq y5,cell_later bq y6,cell_later bq y7,cell_later bq v2⟩
    clear hK K
    try go_frame
    refine rgTake 14 (some 6) hHeld _ ?_;try go_frame
    refine wpAnyH_done (by kernel_rfl) ?_ _
    have hbf:Below w.heap.size w w9:=bw.grown hg9 (by omega) fun t e=> by have:=HLT.out t e;omega
    rw [←u8s_append] at own9
    have H2:=Lib.hid (And.intro (own_base own9 hbz) hbf)
    clear own9 hg9 hbf bq bw s0 v0 v2 t0 t1 t2 t3 t4 t5 t6 t7 hkc y0 y1 y2 y3 y4 y5 y6 y7 hHeld
    go_wp2
    go_ret
    exact ⟨_,ys++xs,rfl,by rw [HF.out,List.length_append,HYL.out];have:=HSZ0.out;omega,by simpa using H2.out.1,H2.out.2⟩
   ·have HF:Hid (lenV (L.map RM.d) k x.d=xs.length):=Lib.hid (by rw [hvv];simp only [lenR,q];simp)
    rw [q] at t1
    clear hvv hxl2
    go_wp2
    go_ret
    exact ⟨_,xs,rfl,by rw [HF.out];rfl,own_base HOW.out hW1w,HB.out.2⟩
   ·have h7:=HF0.out.c7 q
    have ho:=HOWN.out
    rw [own_7 q] at ho
    simp only [Bool.and_eq_true,decide_eq_true_eq] at ho
    have htg:=tag_le hv (k:=k) (by rw [hlm];exact hk) (by rw [List.getElem_map];exact q) (n:=x.n) (by rw [List.getElem_map];exact ho.2.2)
    rw [List.getElem_map] at htg
    obtain ⟨k0,hk0,hkk,ek0,es0,hs1,hs4,hlim⟩:=fldL hv hk (by omega) (by omega)
    obtain ⟨bk,ok,rfl,hbk,hkc⟩:=fld_cells HH.out hk (by omega) HE4.out
    rw [ek0] at hkc
    obtain ⟨b1,o1,A5,c5,A6,c6,A7,c7,A8,c8,e',hb1B,f1,f2,f3,f4, -, -, -, -,hcell1⟩:=rule_cells HH.out k0 hk0
    obtain ⟨rfl,rfl⟩:b1=b0∧o1=off:=by simp only [Option.some.injEq,Addr.mk.injEq] at e';exact ⟨e'.1.symm,e'.2.1.symm⟩
    obtain ⟨y0,y1,y2,y3,y4,y5,y6,y7⟩:=hcell1 wr (below_cells HB.out.2 hB)
    have hkc:=cell_keep hkc (HB.out.2.mono hB) hbk
    have hbkw:bk < w.heap.size:=by omega
    have hpw:pow8 L[k0].d.size≤4294967296:=by unfold pow8;repeat' split <;> omega
    have HF:Hid (lenV (L.map RM.d) k x.d=L[k0].d.size+xs.length):=Lib.hid (by rw [hvv];simp only [lenR,q];simp [es0])
    have hI:∀W,Below w.heap.size w W→Calls Tryd.prog 82 #[.agg #[.string L[k0].d.name, .int .i64 L[k0].d.kind, .int .i64 L[k0].d.size, .bool L[k0].d.little, .slice A5 L[k0].d.bytes.length c5, .slice A6 L[k0].d.names.length c6, .slice A7 L[k0].d.tags.length c7, .slice A8 L[k0].d.kids.length c8], .int .i64 x.n] W (MadeN L[k0].d.size.toNat W):=fun W hb=> by
     have:=l8Integer_any L[k0] x.n B W ((HH.out.2 _ (List.getElem_mem hk0)).below (hb.mono hB)) hs1 hs4 (by omega) (by omega)
     unfold rmV at this
     rw [f1,f2,f3,f4] at this
     exact this
    have HI:=Lib.hid hI
    have HSZ0:=Lib.hid hs1
    rw [q] at t1
    have bq:=(Below.refl wr.heap.size wr).drew
    have bw:=HB.out.2.drew
    have hbz:=HB.out.2.size
    clear hvv hxl2 HI8 hI es0 hlim ek0 hcell1 f1 f2 f3 f4 e' hpw
    go_wp2_with fail
    refine wp_region_held_drew (S:=(fun w9=> w9.cell? ⟨w.heap.size,0,none⟩=some (.slice (some ⟨b1,o1,none⟩) L.length c)∧w9.cell? ⟨W0.heap.size,7,none⟩=some (.slice (some ⟨bk,ok,none⟩) L[k].d.kids.length c4)∧w9.cell? ⟨bk,ok,none⟩=some (.int .i64 k0)∧w9.cell? ⟨b1,o1+k0*8,none⟩=some (.string L[k0].d.name)∧w9.cell? ⟨b1,o1+k0*8+1,none⟩=some (.int .i64 L[k0].d.kind)∧w9.cell? ⟨b1,o1+k0*8+2,none⟩=some (.int .i64 L[k0].d.size)∧w9.cell? ⟨b1,o1+k0*8+3,none⟩=some (.bool L[k0].d.little)∧w9.cell? ⟨b1,o1+k0*8+4,none⟩=some (.slice A5 L[k0].d.bytes.length c5)∧w9.cell? ⟨b1,o1+k0*8+5,none⟩=some (.slice A6 L[k0].d.names.length c6)∧w9.cell? ⟨b1,o1+k0*8+6,none⟩=some (.slice A7 L[k0].d.tags.length c7)∧w9.cell? ⟨b1,o1+k0*8+7,none⟩=some (.slice A8 L[k0].d.kids.length c8)∧w9.cell? ⟨w.heap.size+1,0,none⟩=some (.int .i64 x.n))) (by kernel_rfl) ?_ (fun hHeld=> ?_)
    ·(try dsimp only);exact ⟨s0,t7,hkc,y0,y1,y2,y3,y4,y5,y6,y7,v0⟩
    refine rgTake 0 (some 87) hHeld _ ?_;try go_frame
    refine rgTake 1 (some 88) hHeld _ ?_;try go_frame
    refine rgTake 2 (some 89) hHeld _ ?_;try go_frame
    refine rgTake 3 (some 90) hHeld _ ?_;try go_frame
    refine rgTake 4 (some 91) hHeld _ ?_;try go_frame
    refine rgTake 5 (some 92) hHeld _ ?_;try go_frame
    refine rgTake 6 (some 93) hHeld _ ?_;try go_frame
    refine rgTake 7 (some 94) hHeld _ ?_;try go_frame
    refine rgTake 8 (some 95) hHeld _ ?_;try go_frame
    refine rgTake 9 (some 96) hHeld _ ?_;try go_frame
    refine rgTake 11 (some 98) hHeld _ ?_;try go_frame
    refine rgStep 10 (fun K hK=> ?_)
    go_simp
    refine (HI.out _ bw).mono ?_;rintro e w3 ⟨u,ys,rfl,hyl,own3,bel3⟩;have HYL:=Lib.hid hyl;have hy4:ys.length≤4:=(by omega);clear hyl;have HQ:=Lib.hid (own_base own3 bq.size);have bq:=below_step bel3 bq;have bw:=below_step bel3 bw;have hqz:=bq.size;have HLT:=Lib.hid HQ.out.lt;clear own3 bel3
    (try go_wp2_with fail)
    refine hK.out _ _ ?_ (fun hHeld=> ?_)
    ·(try dsimp only);first|exact ⟨cell_rowQ hg9 (cell_later bq s0) (fun e=> by have:=HLT.out _ e;omega),cell_rowQ hg9 (cell_later bq t7) (fun e=> by have:=HLT.out _ e;omega),cell_rowQ hg9 (cell_later bq hkc) (fun e=> by have:=HLT.out _ e;omega),cell_rowQ hg9 (cell_later bq y0) (fun e=> by have:=HLT.out _ e;omega),cell_rowQ hg9 (cell_later bq y1) (fun e=> by have:=HLT.out _ e;omega),cell_rowQ hg9 (cell_later bq y2) (fun e=> by have:=HLT.out _ e;omega),cell_rowQ hg9 (cell_later bq y3) (fun e=> by have:=HLT.out _ e;omega),cell_rowQ hg9 (cell_later bq y4) (fun e=> by have:=HLT.out _ e;omega),cell_rowQ hg9 (cell_later bq y5) (fun e=> by have:=HLT.out _ e;omega),cell_rowQ hg9 (cell_later bq y6) (fun e=> by have:=HLT.out _ e;omega),cell_rowQ hg9 (cell_later bq y7) (fun e=> by have:=HLT.out _ e;omega),cell_rowQ hg9 (cell_later bq v0) (fun e=> by have:=HLT.out _ e;omega)⟩|exact ⟨cell_later bq s0,cell_later bq t7,cell_later bq hkc,cell_later bq y0,cell_later bq y1,cell_later bq y2,cell_later bq y3,cell_later bq y4,cell_later bq y5,cell_later bq y6,cell_later bq y7,cell_later bq v0⟩
    clear hK K
    try go_frame
    refine rgStep 12 (fun K hK=> ?_)
    refine wp_app _ (.tmp 97) (.tmp 98) 22 rfl wr.heap.size 5 i0 (.int .u8 0) 1 1 Tryd.underlying22 hi hz0 hz1 hz2 rfl (by decide) _ ys.length _ rfl (by exact HQ.out) _ xs.length _ (u8s xs) rfl (by exact Sl.of_own (own_below HOW.out bq (Nat.le_refl _))) (u8s_one _) (by omega) (by unfold maxLen;omega) (by omega) ?_;intro v9 w9 own9 hg9 _;obtain ⟨A9,c9,rfl⟩:=own_slice own9
    refine hK.out _ _ ?_ (fun hHeld=> ?_)
    ·(try dsimp only);first|exact ⟨cell_rowQ hg9 (cell_later bq s0) (fun e=> by have:=HLT.out _ e;omega),cell_rowQ hg9 (cell_later bq t7) (fun e=> by have:=HLT.out _ e;omega),cell_rowQ hg9 (cell_later bq hkc) (fun e=> by have:=HLT.out _ e;omega),cell_rowQ hg9 (cell_later bq y0) (fun e=> by have:=HLT.out _ e;omega),cell_rowQ hg9 (cell_later bq y1) (fun e=> by have:=HLT.out _ e;omega),cell_rowQ hg9 (cell_later bq y2) (fun e=> by have:=HLT.out _ e;omega),cell_rowQ hg9 (cell_later bq y3) (fun e=> by have:=HLT.out _ e;omega),cell_rowQ hg9 (cell_later bq y4) (fun e=> by have:=HLT.out _ e;omega),cell_rowQ hg9 (cell_later bq y5) (fun e=> by have:=HLT.out _ e;omega),cell_rowQ hg9 (cell_later bq y6) (fun e=> by have:=HLT.out _ e;omega),cell_rowQ hg9 (cell_later bq y7) (fun e=> by have:=HLT.out _ e;omega),cell_rowQ hg9 (cell_later bq v0) (fun e=> by have:=HLT.out _ e;omega)⟩|exact ⟨cell_later bq s0,cell_later bq t7,cell_later bq hkc,cell_later bq y0,cell_later bq y1,cell_later bq y2,cell_later bq y3,cell_later bq y4,cell_later bq y5,cell_later bq y6,cell_later bq y7,cell_later bq v0⟩
    clear hK K
    try go_frame
    refine rgTake 13 (some 6) hHeld _ ?_;try go_frame
    refine wpAnyH_done (by kernel_rfl) ?_ _
    have hbf:Below w.heap.size w w9:=bw.grown hg9 (by omega) fun t e=> by have:=HLT.out t e;omega
    rw [←u8s_append] at own9
    have H2:=Lib.hid (And.intro (own_base own9 hbz) hbf)
    clear own9 hg9 hbf bq bw s0 v0 v2 t0 t1 t2 t3 t4 t5 t6 t7 hkc y0 y1 y2 y3 y4 y5 y6 y7 hHeld
    go_wp2
    go_ret
    exact ⟨_,ys++xs,rfl,by rw [HF.out,List.length_append,HYL.out];have:=HSZ0.out;omega,by simpa using H2.out.1,H2.out.2⟩
   ·have HF:Hid (lenV (L.map RM.d) k x.d=1+(xs.length:Int)):=Lib.hid (by rw [hvv];simp only [lenR,q];simp)
    have ho:=HOWN.out
    rw [own_8 q] at ho
    simp only [Bool.and_eq_true,decide_eq_true_eq,List.length_map] at ho
    have hbz:=HB.out.2.size
    rw [q] at t1
    obtain ⟨il,hil⟩:∃n,n=x.items.length:=⟨_,rfl⟩
    have hi1:il=0∨il=1:=by omega
    clear hvv hxl2 HI8 ho v0 v1 t0 t2 t3 t4 t5 t6 t7 s0
    rw [←hil] at v2 ⊢
    clear hil
    rcases hi1 with rfl|rfl
    ·go_wp2_with (at_builtin;refine wpList_app _ rfl (.tmp 106) (.tmp 107) 22 rfl wr.heap.size 5 i0 (.int .u8 0) 1 1 Tryd.underlying22 hi hz0 hz1 hz2 rfl (by decide) _ 1 (u8s [0]) rfl (by exact own_oneP _ _ _) _ xs.length _ (u8s xs) rfl (Sl.of_own (own_below HOW.out ((Below.refl _ _).alloc (Nat.le_refl _) _) (Nat.le_refl _))) (u8s_one _) (by omega) (by unfold maxLen;omega) (by simp) ?_;intro v2 w2 own2 hg2 _)
     have hbf:Below w.heap.size w w2:=(HB.out.2.alloc hbz _).grown hg2 (by simp;omega) fun t e=> by cases e;exact hbz
     rw [←u8s_append,show 1+xs.length=([0]++xs:List UInt8).length by simp;omega] at own2
     have H2:=Lib.hid (And.intro (own_base own2 hbz) hbf)
     clear own2 hg2 hbf
     go_wp2
     go_ret
     exact ⟨_, [0]++xs,rfl,by rw [HF.out];simp;omega,H2.out.1,H2.out.2⟩
    ·go_wp2_with (at_builtin;refine wpList_app _ rfl (.tmp 106) (.tmp 107) 22 rfl wr.heap.size 5 i0 (.int .u8 0) 1 1 Tryd.underlying22 hi hz0 hz1 hz2 rfl (by decide) _ 1 (u8s [1]) rfl (by exact own_oneP _ _ _) _ xs.length _ (u8s xs) rfl (Sl.of_own (own_below HOW.out ((Below.refl _ _).alloc (Nat.le_refl _) _) (Nat.le_refl _))) (u8s_one _) (by omega) (by unfold maxLen;omega) (by simp) ?_;intro v2 w2 own2 hg2 _)
     have hbf:Below w.heap.size w w2:=(HB.out.2.alloc hbz _).grown hg2 (by simp;omega) fun t e=> by cases e;exact hbz
     rw [←u8s_append,show 1+xs.length=([1]++xs:List UInt8).length by simp;omega] at own2
     have H2:=Lib.hid (And.intro (own_base own2 hbz) hbf)
     clear own2 hg2 hbf
     go_wp2
     go_ret
     exact ⟨_, [1]++xs,rfl,by rw [HF.out];simp;omega,H2.out.1,H2.out.2⟩
   ·have HF:Hid (lenV (L.map RM.d) k x.d=(xs.length:Int)+1):=Lib.hid (by rw [hvv];simp only [lenR,q];simp)
    have hbz:=HB.out.2.size
    rw [q] at t1
    clear hvv hxl2 HI8 v0 v1 t0 t2 t3 t4 t5 t6 t7 s0
    go_wp2_with fail
    refine (specSum_any _ xs wr.heap.size _ (Sl.of_own HOW.out) (Nat.le_refl _)).mono ?_
    rintro e w5 ⟨⟨z,rfl,hx0,hx1⟩,rfl⟩
    go_wp2_with (at_builtin;refine wpList_app _ rfl (.tmp 111) (.tmp 115) 22 rfl W1.heap.size 5 i0 (.int .u8 0) 1 1 Tryd.underlying22 hi hz0 hz1 hz2 rfl (by decide) _ xs.length _ rfl (own_below HOW.out ((Below.refl _ _).alloc (Nat.le_refl _) _) (Nat.le_refl _)) _ 1 _ (u8s [UInt8.ofNat z.toNat]) rfl (slb_oneG hx0 hx1 rfl) (u8s_one _) (by omega) (by unfold maxLen;omega) (by simp;omega) ?_;intro v2 w2 own2 hg2 _)
    have hlt3:=HOW.out.lt
    have hbf:Below w.heap.size w w2:=(HB.out.2.alloc hbz _).grown hg2 (by simp;omega) fun t e=> by have:=(hlt3 t e).1;omega
    rw [←u8s_append] at own2
    have H2:=Lib.hid (And.intro (own_base own2 hW1w) hbf)
    clear own2 hg2 hbf hlt3
    go_wp2
    go_ret
    exact ⟨_,xs++ [UInt8.ofNat z.toNat],rfl,by rw [HF.out];simp,by simpa using H2.out.1,H2.out.2⟩
   ·have h10:=bytes_10 hkind q
    have ho:=HOWN.out
    rw [own_10 q] at ho
    simp only [Bool.and_eq_true,decide_eq_true_eq,List.length_map] at ho
    obtain ⟨t,ht⟩:=List.length_eq_one_iff.1 h10
    have hx0:xs.length=0:=by
     have:=hxl2
     rw [show x.items= [] from List.eq_nil_of_length_eq_zero (by omega),List.map_nil,lenVs_nil] at this
     omega
    obtain rfl:=List.eq_nil_of_length_eq_zero hx0
    have HF:Hid (lenV (L.map RM.d) k x.d=(escN t x.b:Int)+1):=Lib.hid (by rw [hvv];simp only [lenR,q];simp [ht])
    have hVC:∀W,Below w.heap.size w W→∀j (hj:j < x.b.length),∃bb oo,Ax=some ⟨bb,oo,none⟩∧bb < B∧W.cell? ⟨bb,oo+j,none⟩=some (.int .u8 (x.b[j].toNat:Int)):=fun W hb j hj=> by
     obtain ⟨A',c',e', -, -,hc'⟩:=(HVB.out W hb).one
     simp only [Value.slice.injEq] at e'
     obtain ⟨bb,oo,e2',h3',h4'⟩:=hc' j hj
     exact ⟨bb,oo,by rw [e'.1];exact e2',h3',h4'⟩
    have hTC:∃bt ot,A1=some ⟨bt,ot,none⟩∧bt < B∧∀W,Below w.heap.size w W→W.cell? ⟨bt,ot,none⟩=some (.int .u8 (t.toNat:Int)):=by
     obtain ⟨A',c',e', -, -,hc'⟩:=(HSB.out w (Below.refl _ _)).one
     simp only [Value.slice.injEq] at e'
     obtain ⟨bb,oo,e2',h3',h4'⟩:=hc' 0 (by omega)
     refine ⟨bb,oo,by rw [e'.1];exact e2',h3',fun W hb=> ?_⟩
     have h5':=cell_at (hb.mono hB) h3' h4'
     simpa [u8v,ht] using h5'
    obtain ⟨bt,ot,rfl,hbt,hTC⟩:=hTC
    have hbtw:bt < w.heap.size:=by omega
    have HVC:=Lib.hid hVC
    have HTC:=Lib.hid hTC
    have hx4:x.b.length≤400:=by omega
    have H10:=Lib.hid h10
    rw [q] at t1
    clear q hvv hxl2 HI8 ho hx0 hVC hTC ht h10 HOWN HF0 HSB HVB HH s0 t0 t2 t3 t4 t5 t6 t7
    go_wp2_with fail
    go_loopw [8,10] (fun o i wr=> ∃(j:Nat) (ys:List UInt8),j≤x.b.length∧i= .int .i64 j∧ys.length=escN t (x.b.take j)∧wr.ownsRow W1.heap.size 5 1 o ys.length (u8s ys)∧Below W1.heap.size W1 wr) (fun _ i _=> x.b.length - (intOf i).toNat)
    case atStart=> exact ⟨0, [],Nat.zero_le _,rfl,by rw [List.take_zero];rfl,HOW.out,HB.out.1⟩
    case round=>
     obtain ⟨j,ys,hj,rfl,hyl,hown,hb⟩:=hrel
     clear HOW HB t1 v0 v1 v2
     have hsz:=hb.size
     have bw:Below w.heap.size w wr:=below_step hb hb1.out
     obtain ⟨⟨v0,v1,v2⟩, -⟩:=(HKV.out.below hb).c3
     obtain ⟨⟨t0,t1,t2,t3,t4,t5,t6,t7⟩, -⟩:=(HKR.out.below hb).c8
     rw [H10.out] at t4
     have htc:=HTC.out wr bw
     have hye:ys.length≤800:=by have:=escN_le t (x.b.take j);rw [List.length_take] at this;omega
     have HYL:=Lib.hid hyl
     have HOW:=Lib.hid hown
     have HB:=Lib.hid (And.intro hb bw)
     clear hown hb bw hyl
     by_cases hlt:j < x.b.length
     ·obtain ⟨bb,oo,rfl,hbb,hvc1⟩:=HVC.out W1 hb1.out j hlt
      have hbbw:bb < w.heap.size:=by omega
      have HTK:=Lib.hid (escN_take (t:=t) hlt)
      generalize x.b[j]=y at*
      have hvc:=cell_keep hvc1 HB.out.1 (by omega)
      have HVJ:=Lib.hid hvc1
      have hy0:(0:Int)≤(y.toNat:Int):=by omega
      have hy1:(y.toNat:Int)≤255:=by have:=y.toNat_lt;omega
      clear hvc1
      clear v0 v2 t0 t1 t2 t3 t5 t6 t7
      by_cases hyt:y=t
      ·subst hyt
       have HIF:=Lib.hid (show y=y∨y=92 from .inl rfl)
       go_wp2_with fail
       go_quiet (fail)
       go_wp2_with (at_builtin;first|(refine wpList_app _ rfl (.tmp 144) (.tmp 145) 22 rfl W1.heap.size 5 i0 (.int .u8 0) 1 1 Tryd.underlying22 hi hz0 hz1 hz2 rfl (by decide) _ ys.length _ rfl (own_below HOW.out ((below_drewN (Below.refl wr.heap.size wr) _).alloc (by simp) _) (Nat.le_refl _)) _ 1 _ (u8s [UInt8.ofNat (92:Int).toNat]) rfl (slb_oneG (by omega) (by omega) rfl) (u8s_one _) (by omega) (by unfold maxLen;omega) (by simp;omega) ?_;intro z2 w2 own2 hg2 _;have hlt3:=HOW.out.lt;rw [←u8s_append] at own2;have hbf:Below W1.heap.size W1 w2:=((below_drewN HB.out.1 _).alloc (by simp;omega) _).grown hg2 (by simp;omega) (fun q e=> (hlt3 q e).1);have H2:=Lib.hid (And.intro own2 hbf);have hz2w:=hbf.size;obtain ⟨⟨-,v1, -⟩, -⟩:=(HKV.out.below hbf).c3;have hvc:=cell_keep HVJ.out hbf (by omega);clear own2 hg2 hbf hlt3 htc t4)|(refine wpList_app _ rfl (.tmp 147) (.tmp 153) 22 rfl W1.heap.size 5 i0 (.int .u8 0) 1 1 Tryd.underlying22 hi hz0 hz1 hz2 rfl (by decide) _ (ys.length+1) _ rfl (own_below H2.out.1 ((Below.refl _ _).alloc (Nat.le_refl _) _) (Nat.le_refl _)) _ 1 _ (u8s [UInt8.ofNat ((y.toNat:Int)).toNat]) rfl (slb_oneG (by omega) (by omega) rfl) (u8s_one _) (by omega) (by unfold maxLen;omega) (by simp;omega) ?_;intro z3 w3 own3 hg3 _))
       have hlt3:=H2.out.1.lt
       rw [←u8s_append] at own3
       have hbf:Below W1.heap.size W1 w3:=(H2.out.2.alloc hz2w _).grown hg3 (by simp;omega) fun q e=> (hlt3 q e).1
       have H3:=Lib.hid (And.intro own3 hbf)
       clear own3 hg3 hbf hlt3
       go_roundw
       case rel=> exact ⟨j+1,ys++ [UInt8.ofNat (92:Int).toNat]++ [UInt8.ofNat ((y.toNat:Int)).toNat],by omega,by go_num,by rw [HTK.out,if_pos HIF.out,←HYL.out];simp,by simpa using H3.out.1,H3.out.2⟩
       case measure=> simp [intOf];omega
      ·have hne:¬((y.toNat:Int)=(t.toNat:Int)):=fun e=> hyt (UInt8.toNat_inj.1 (by omega))
       have hne':¬(y.toNat=t.toNat):=fun e=> hyt (UInt8.toNat_inj.1 e)
       by_cases hy92:(y.toNat:Int)=92
       ·have HIF:=Lib.hid (show y=t∨y=92 from .inr (UInt8.toNat_inj.1 (by show y.toNat=92;omega)))
        have hy92n:y.toNat=92:=by omega
        rw [hy92] at hvc hne
        rw [hy92n] at hne'
        go_wp2_with fail
        go_quiet (fail)
        go_wp2_with (at_builtin;first|(refine wpList_app _ rfl (.tmp 144) (.tmp 145) 22 rfl W1.heap.size 5 i0 (.int .u8 0) 1 1 Tryd.underlying22 hi hz0 hz1 hz2 rfl (by decide) _ ys.length _ rfl (own_below HOW.out ((below_drewN (Below.refl wr.heap.size wr) _).alloc (by simp) _) (Nat.le_refl _)) _ 1 _ (u8s [UInt8.ofNat (92:Int).toNat]) rfl (slb_oneG (by omega) (by omega) rfl) (u8s_one _) (by omega) (by unfold maxLen;omega) (by simp;omega) ?_;intro z2 w2 own2 hg2 _;have hlt3:=HOW.out.lt;rw [←u8s_append] at own2;have hbf:Below W1.heap.size W1 w2:=((below_drewN HB.out.1 _).alloc (by simp;omega) _).grown hg2 (by simp;omega) (fun q e=> (hlt3 q e).1);have H2:=Lib.hid (And.intro own2 hbf);have hz2w:=hbf.size;obtain ⟨⟨-,v1, -⟩, -⟩:=(HKV.out.below hbf).c3;have hvc:=cell_keep HVJ.out hbf (by omega);clear own2 hg2 hbf hlt3 htc t4;rw [hy92] at hvc)|(refine wpList_app _ rfl (.tmp 147) (.tmp 153) 22 rfl W1.heap.size 5 i0 (.int .u8 0) 1 1 Tryd.underlying22 hi hz0 hz1 hz2 rfl (by decide) _ (ys.length+1) _ rfl (own_below H2.out.1 ((Below.refl _ _).alloc (Nat.le_refl _) _) (Nat.le_refl _)) _ 1 _ (u8s [UInt8.ofNat (92:Int).toNat]) rfl (slb_oneG (by omega) (by omega) rfl) (u8s_one _) (by omega) (by unfold maxLen;omega) (by simp;omega) ?_;intro z3 w3 own3 hg3 _))
        have hlt3:=H2.out.1.lt
        rw [←u8s_append] at own3
        have hbf:Below W1.heap.size W1 w3:=(H2.out.2.alloc hz2w _).grown hg3 (by simp;omega) fun q e=> (hlt3 q e).1
        have H3:=Lib.hid (And.intro own3 hbf)
        clear own3 hg3 hbf hlt3
        go_roundw
        case rel=> exact ⟨j+1,ys++ [UInt8.ofNat (92:Int).toNat]++ [UInt8.ofNat (92:Int).toNat],by omega,by go_num,by rw [HTK.out,if_pos HIF.out,←HYL.out];simp,by simpa using H3.out.1,H3.out.2⟩
        case measure=> simp [intOf];omega
       ·have HIF:=Lib.hid (show ¬(y=t∨y=92) by
         intro e
         rcases e with e|e
         ·exact hyt e
         ·subst e;exact hy92 rfl)
        have hbe1:((y.toNat:Int)==(t.toNat:Int))=false:=by simp [hne]
        have hbe2:((y.toNat:Int)==92)=false:=by simp [hy92]
        clear hne hne' hy92
        go_wp2_with fail
        go_quiet (fail)
        go_wp2_with (at_builtin;refine wpList_app _ rfl (.tmp 147) (.tmp 153) 22 rfl W1.heap.size 5 i0 (.int .u8 0) 1 1 Tryd.underlying22 hi hz0 hz1 hz2 rfl (by decide) _ ys.length _ rfl (own_below HOW.out ((below_drewN (Below.refl wr.heap.size wr) _).alloc (by simp) _) (Nat.le_refl _)) _ 1 _ (u8s [UInt8.ofNat (y.toNat:Int).toNat]) rfl (slb_oneG (by omega) (by omega) rfl) (u8s_one _) (by omega) (by unfold maxLen;omega) (by simp;omega) ?_;intro z3 w3 own3 hg3 _)
        have hlt3:=HOW.out.lt
        rw [←u8s_append] at own3
        have hbf:Below W1.heap.size W1 w3:=((below_drewN HB.out.1 _).alloc (by simp;omega) _).grown hg3 (by simp;omega) fun q e=> (hlt3 q e).1
        have H3:=Lib.hid (And.intro own3 hbf)
        clear own3 hg3 hbf hlt3
        go_roundw
        case rel=> exact ⟨j+1,ys++ [UInt8.ofNat (y.toNat:Int).toNat],by omega,by go_num,by rw [HTK.out,if_neg HIF.out,←HYL.out];simp,by simpa using H3.out.1,H3.out.2⟩
        case measure=> simp [intOf];omega
     ·obtain rfl:j=x.b.length:=by omega
      have hr0:(0:Int)≤(t.toNat:Int):=by omega
      have hr1:(t.toNat:Int)≤255:=by have:=t.toNat_lt;omega
      clear v0 v2 t0 t1 t2 t3 t5 t6 t7
      go_wp2_with (at_builtin;refine wpList_app _ rfl (.tmp 155) (.tmp 160) 22 rfl W1.heap.size 5 i0 (.int .u8 0) 1 1 Tryd.underlying22 hi hz0 hz1 hz2 rfl (by decide) _ ys.length _ rfl (own_below HOW.out ((Below.refl _ _).alloc (Nat.le_refl _) _) (Nat.le_refl _)) _ 1 _ (u8s [UInt8.ofNat (t.toNat:Int).toNat]) rfl (slb_oneG hr0 hr1 rfl) (u8s_one _) (by omega) (by unfold maxLen;omega) (by simp;omega) ?_;intro z3 w3 own3 hg3 _)
      have hlt3:=HOW.out.lt
      rw [←u8s_append] at own3
      have hbf:Below w.heap.size w w3:=(HB.out.2.alloc HB.out.2.size _).grown hg3 (by simp;omega) fun q e=> by have:=(hlt3 q e).1;omega
      have H3:=Lib.hid (And.intro (own_base own3 hW1w) hbf)
      clear own3 hg3 hbf hlt3
      go_wp2
      go_ret
      exact ⟨_,ys++ [UInt8.ofNat (t.toNat:Int).toNat],rfl,by rw [HF.out,List.length_append,HYL.out,List.take_length];simp only [List.length_singleton];omega,by simpa using H3.out.1,H3.out.2⟩
end Go.Proofs.YteldgdelmaeokaaDoor
namespace Go.Proofs.YteldgdelmaeokaaDoor
open Go.RowKit
end Go.Proofs.YteldgdelmaeokaaDoor
namespace Go.Proofs.YteldgdelmaeokaaDoor
open Go.RowKit
end Go.Proofs.YteldgdelmaeokaaDoor
