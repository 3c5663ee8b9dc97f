/- The walk of l9Default: some value, small and of its own. Conditions: the description reads as its small valid rules, whose kids and sizes are few. -/
import Derived.Test.YteldgdelmaeokaaDoorGle
import Derived.Test.YteldgdelmaeokaaDoorGda
import Derived.Test.YteldgdelmaeokaaDoorGn
import Derived.Test.YteldgdelmaeokaaDoorGf
set_option linter.unusedSimpArgs false
set_option linter.unusedVariables false
namespace Go.Proofs.YteldgdelmaeokaaDoor
open Go.RowKit
theorem Grow.done {W w:World} {lo o g:Nat} {bs:List UInt8} {vb vi:Value} {D:List VM} (h:Grow W lo o bs vb vi D) (hg:g < lo) (hw:w.heap.size≤lo) (n:Int):
  ∃x:VM, .agg #[.int .i64 n,vb,vi]=vmV x∧x.d= .mk n bs (D.map VM.d)∧OwV1 x w.heap.size (((W.setCell ⟨g,0,none⟩ (.int .i64 n)).setCell ⟨g,1,none⟩ vb).setCell ⟨g,2,none⟩ vi).heap.size (((W.setCell ⟨g,0,none⟩ (.int .i64 n)).setCell ⟨g,1,none⟩ vb).setCell ⟨g,2,none⟩ vi):=by
 obtain ⟨x,e1,e2,e3⟩:=(((h.setQ (j:=0) hg (.int .i64 n)).setQ (j:=1) hg vb).setQ (j:=2) hg vi).fin n
 exact ⟨x,e2,e1,e3.wide hw (Nat.le_refl _)⟩
def DfE (m:Nat) (w:World) (e:Ending) (w':World):Prop:=∃x:VM,e= .returned (vmV x)∧OwV1 x w.heap.size w'.heap.size w'∧x.d.size≤m∧Below w.heap.size w w'
def DfC (L:List RM) (k:Nat):Prop:=∀(vD:Value) (B:Nat) (w:World),SlD w B vD L→B≤w.heap.size→Calls Tryd.prog 102 #[.agg #[vD], .int .i64 k] w (DfE (8*5 ^ k) w)
theorem own_zeros {w:World} {base g s:Nat} (h:w.ownsRow base 5 1 (.slice (some ⟨g,0,none⟩) s s) s (madeCells (Value.cells (.int .u8 0)) (s*1)).toList):w.ownsRow base 5 1 (.slice (some ⟨g,0,none⟩) s s) (List.replicate s (0:UInt8)).length (u8s (List.replicate s 0)):=by
 have e:(madeCells (Value.cells (.int .u8 0)) (s*1)).toList=u8s (List.replicate s 0):=by
  have h1:(madeCells (Value.cells (.int .u8 0)) (s*1)).toList=List.replicate (s*1) (.int .u8 0):=toList_madeCells_one _ _
  rw [h1,Nat.mul_one]
  simp [u8s,u8v]
 rw [e] at h
 rw [List.length_replicate]
 exact h
theorem Grow.one {W:World} {g lo o hi:Nat} {x:VM} {lx:Nat} (hg:Blk W g 29 (vmCells x).toArray) (hx:OwV1 x lx g W) (h1:lo≤lx) (h2:hi≤lx) (h3:lo≤g) (ho:o < lo):Grow W lo o [] (.slice none 0 0) (.slice (some ⟨g,0,none⟩) 1 1) [x]:=by
 refine ⟨World.ownsRow_nil _ _ _ _,⟨by simp [vmCells], .inr ⟨g,1,_,rfl,h3,hg,Nat.le_refl _,by simp [maxLen],by simp [vmCells],by simp [vmCells]⟩⟩,fun y hy=> by simp at hy;subst hy;exact hx.own.base h1,?_⟩
 rw [VM.bkss_cons,VM.bkss_nil,List.append_nil]
 show (o::g::x.bks).Nodup
 rw [List.nodup_cons,List.nodup_cons]
 refine ⟨fun hm=> ?_,fun hm=> ?_,hx.nd⟩
 ·rcases List.mem_cons.1 hm with e|e
  ·omega
  ·have:=(hx.rng _ e).1;omega
 ·have:=(hx.rng _ hm).2;omega
theorem pow_step {q k:Nat} (h:q < k):8*5 ^ q*4+8≤8*5 ^ k:=by
 have h1:5 ^ (q+1)≤5 ^ k:=Nat.pow_le_pow_right (by decide) h
 have h2:1≤5 ^ q:=Nat.one_le_pow _ _ (by decide)
 rw [Nat.pow_succ] at h1
 omega
theorem cell_rowD {w w':World} {row:Option Nat} {g o:Nat} {u:Value} (hg:w.grownBy w' row) (h:w.cell? ⟨g,o,none⟩=some u) (hn:row≠some g):w'.cell? ⟨g,o,none⟩=some u:=by
 have hlt:=World.block_lt_of_cell? w ⟨g,o,none⟩ h
 rw [←h]
 unfold World.cell?
 simp only
 rw [hg.block g hlt (fun e=> hn e.symm)]
theorem pow5 (k:Nat):1≤5 ^ k:=Nat.one_le_pow _ _ (by decide)
set_option maxHeartbeats 16000000 in
set_option maxRecDepth 100000 in
theorem l9Default_any (L:List RM) (hv:validD (L.map RM.d)=true) (h4:∀r∈L,r.d.kids.length≤4∧0≤r.d.size∧r.d.size≤4) (k:Nat):k < L.length→DfC L k:=by
 induction k using Nat.strongRecOn with
 |ind k ih=>
 intro hk vD B w h hB
 obtain ⟨i0,hi0,hz0,hz1,hz2⟩:=info_parts Tryd.info_value
 have hlm:(L.map RM.d).length=L.length:=List.length_map ..
 have hf0:=(validD_facts hv).2 k (by rw [hlm];exact hk)
 rw [List.getElem_map] at hf0
 have HF0:=Lib.hid hf0
 have hrl:=h4 _ (List.getElem_mem hk)
 have hIH:∀q,q < k→∀W,Below w.heap.size w W→Calls Tryd.prog 102 #[.agg #[vD], .int .i64 q] W (DfE (8*5 ^ q) W):=fun q hq W hw=> ih q hq (by omega) vD B W (h.below (hw.mono hB)) (by have:=hw.size;omega)
 have hKC:∀j (hj:j < L[k].d.kids.length),∃(q bk ok:Nat) (A5:Option Addr) (c5:Nat),L[k].vk= .slice A5 L[k].d.kids.length c5∧A5=some ⟨bk,ok,none⟩∧bk < B∧q < k∧∀W,Below w.heap.size w W→W.cell? ⟨bk,ok+j,none⟩=some (.int .i64 q):=fun j hj=> by
  obtain ⟨A5,c5,e5, -, -,hc5⟩:=(h.2 _ (List.getElem_mem hk)).k.one
  obtain ⟨bk,ok,e6,hbk,hc6⟩:=hc5 j hj
  have hx:=hf0.kids _ (List.getElem_mem hj)
  obtain ⟨q,hq⟩:=Int.eq_ofNat_of_zero_le hx.1
  exact ⟨q,bk,ok,A5,c5,e5,e6,hbk,by omega,fun W hw=> by rw [←hq];exact cell_keep hc6 (hw.mono hB) hbk⟩
 have hTG:0 < L[k].d.tags.length→∃(bt ot:Nat) (A5:Option Addr) (c5:Nat) (t:Int),L[k].vt= .slice A5 L[k].d.tags.length c5∧A5=some ⟨bt,ot,none⟩∧bt < B∧∀W,Below w.heap.size w W→W.cell? ⟨bt,ot,none⟩=some (.int .i64 t):=fun hj=> by
  obtain ⟨A5,c5,e5, -, -,hc5⟩:=(h.2 _ (List.getElem_mem hk)).t.one
  obtain ⟨bk,ok,e6,hbk,hc6⟩:=hc5 0 hj
  exact ⟨bk,ok,A5,c5,_,e5,e6,hbk,fun W hw=> cell_keep hc6 (hw.mono hB) hbk⟩
 obtain ⟨A,c,rfl,hc,hm, -⟩:=h.open_
 obtain ⟨b0,off,A1,c1,A2,c2,A3,c3,A4,c4,rfl,hbB,e1,e2,e3,e4,m1,m2,m3,m4,hcell⟩:=rule_cells h k hk
 rw [e4] at hKC
 rw [e3] at hTG
 have HIH:=Lib.hid hIH
 have HKC:=Lib.hid hKC
 have HTG:=Lib.hid hTG
 unfold maxLen at hm m3 m4
 clear hIH hKC hTG h ih hv h4 hf0 e1 e2 e3 e4
 obtain ⟨W0,hW0⟩:∃W0,W0=(w.alloc (.cells #[.slice (some ⟨b0,off,none⟩) L.length c] 26)).alloc (.cells #[.int .i64 0, .slice none 0 0, .slice none 0 0] 29):=⟨_,rfl⟩
 have hb0:Below w.heap.size w W0:=by rw [hW0];exact ((Below.refl w.heap.size w).alloc (Nat.le_refl _) _).alloc (by simp) _
 have Kd:Blk W0 w.heap.size 26 #[.slice (some ⟨b0,off,none⟩) L.length c]:=by rw [hW0];exact (Blk.new w _ _).alloc _
 have Kv:Blk W0 (w.heap.size+1) 29 #[.int .i64 0, .slice none 0 0, .slice none 0 0]:=by
  rw [hW0]
  have:=Blk.new (w.alloc (.cells #[.slice (some ⟨b0,off,none⟩) L.length c] 26)) 29 #[.int .i64 0, .slice none 0 0, .slice none 0 0]
  simpa using this
 have s0:W0.cell? ⟨w.heap.size,0,none⟩=some (.slice (some ⟨b0,off,none⟩) L.length c):=Kd.cell 0 rfl
 obtain ⟨x0,x1,x2,x3,x4,x5,x6,x7⟩:=hcell W0 (below_cells hb0 hB)
 have hbx:b0 < w.heap.size:=by omega
 have hz0':W0.heap.size≤w.heap.size+2:=by rw [hW0];simp
 have hz0'':w.heap.size+2≤W0.heap.size:=by rw [hW0];simp
 clear hcell
 go_enter Tryd.func102,Tryd.ntmps102
 go_upto_region 1 with fail
 rw [←hW0]
 clear hW0
 obtain ⟨W1,hW1⟩:∃W1,W1=W0.alloc (.cells #[.string L[k].d.name, .int .i64 L[k].d.kind, .int .i64 L[k].d.size, .bool L[k].d.little, .slice A1 L[k].d.bytes.length c1, .slice A2 L[k].d.names.length c2, .slice A3 L[k].d.tags.length c3, .slice A4 L[k].d.kids.length c4] 73):=⟨_,rfl⟩
 have h01:Below W0.heap.size W0 W1:=by rw [hW1];exact (Below.refl _ _).alloc (Nat.le_refl _) _
 have Kr:Blk W1 W0.heap.size 73 #[.string L[k].d.name, .int .i64 L[k].d.kind, .int .i64 L[k].d.size, .bool L[k].d.little, .slice A1 L[k].d.bytes.length c1, .slice A2 L[k].d.names.length c2, .slice A3 L[k].d.tags.length c3, .slice A4 L[k].d.kids.length c4]:=by rw [hW1];exact Blk.new W0 _ _
 have hz1'':W1.heap.size≤w.heap.size+3:=by rw [hW1];simp;omega
 have H1:=Lib.hid (below_step h01 hb0)
 have KD:=Lib.hid (Kd.below h01)
 have KV:=Lib.hid (Kv.below h01)
 have KR:=Lib.hid Kr
 have hz1':w.heap.size+3≤W1.heap.size:=by have:=Kr.lt;omega
 clear Kd Kv h01 hb0
 go_upto_region 2 with fail
 rw [←hW1]
 clear hW1 s0 x0 x1 x2 x3 x4 x5 x6 x7
 have s0:W1.cell? ⟨w.heap.size,0,none⟩=some (.slice (some ⟨b0,off,none⟩) L.length c):=KD.out.cell 0 rfl
 obtain ⟨⟨t0,t1,t2,t3,t4,t5,t6,t7⟩, -⟩:=Kr.c8
 have hp5:=pow5 k
 clear Kr
 by_cases q3:L[k].d.kind=3
 ·rw [q3] at t1
  clear q3
  obtain ⟨s,hs⟩:=Int.eq_ofNat_of_zero_le hrl.2.1
  rw [hs] at t2 hrl
  clear hs
  obtain ⟨i1,hj0,hy0,hy1,hy2⟩:=info_parts Tryd.info_u8
  go_wp2_with (at_make;refine wpList_make_full _ rfl _ _ 22 rfl (w.heap.size+3) 5 i1 (.int .u8 0) 1 Tryd.underlying22 hj0 hy0 hy1 _ _ _ _ s rfl rfl rfl rfl (by rw [hy2];omega) (by unfold maxLen;omega) (by exact hz1') ?_;intro w5 hown hg;have bel:Below W1.heap.size W1 w5:=below_grown hg (Nat.le_refl _) (by intro q hq;cases hq);have hown2:=own_zeros hown;have HX:=Lib.hid (Grow.done (w:=w) (g:=w.heap.size+1) (Grow.mk0 (o:=w.heap.size+2) hown2 (World.ownsRow_nil _ _ _ _) (fun e=> by have e2:W1.heap.size=w.heap.size+2:=Option.some.inj e;omega) (fun e=> by cases e) (fun g e=> by cases e)) (by omega) (by omega) 0);have Kq:=KV.out.below bel;obtain ⟨⟨q0,q1,q2⟩,g0,g1,g2⟩:=Kq.c3;obtain ⟨⟨z0,z1,z2⟩, -⟩:=(Kq.put3 (.int .i64 0) (.slice (some ⟨W1.heap.size,0,none⟩) s s) (.slice none 0 0)).c3;have HB5:=Lib.hid (below_put3 (below_step bel H1.out) (show w.heap.size≤w.heap.size+1 by omega) (.int .i64 0) (.slice (some ⟨W1.heap.size,0,none⟩) s s) (.slice none 0 0));clear hown hown2 hg bel Kq)
  obtain ⟨x,hxv,hxd,hxo⟩:=HX.out
  exact bodyPost_ret (v:= .agg #[.int .i64 0, .slice (some ⟨W1.heap.size,0,none⟩) s s, .slice none 0 0]) (by simp [results,Tryd.results102,go_sem,z0,z1,z2]) rfl ⟨x,by rw [hxv],hxo,by rw [hxd,List.map_nil,Val.size_mk,Val.sizes_nil,List.length_replicate];omega,HB5.out⟩
 by_cases q7:L[k].d.kind=7
 ·have h7:=HF0.out.c7 q7
  obtain ⟨q,bk,ok,A5,c5,e5,e6,hbk,hqk,hkc⟩:=HKC.out 1 (by omega)
  simp only [Value.slice.injEq] at e5
  obtain ⟨rfl, -,rfl⟩:=e5
  subst e6
  obtain ⟨bt,ot,A6,c6,tg,e7,e8,hbt,htc⟩:=HTG.out (by omega)
  simp only [Value.slice.injEq] at e7
  obtain ⟨rfl, -,rfl⟩:=e7
  subst e8
  have hk1:=hkc W1 H1.out
  have ht1:=htc W1 H1.out
  have hbkw:bk < w.heap.size:=by omega
  have hbtw:bt < w.heap.size:=by omega
  have hkl:1 < L[k].d.kids.length:=by omega
  have htl:0 < L[k].d.tags.length:=by omega
  have hkl':(1:Int) < (L[k].d.kids.length:Int):=by omega
  have htl':(0:Int) < (L[k].d.tags.length:Int):=by omega
  rw [q7] at t1
  have HI:=Lib.hid (HIH.out q hqk)
  have HKK:=Lib.hid hkc
  have HTT:=Lib.hid htc
  have HPW:=Lib.hid (pow_step hqk)
  have bq:=(Below.refl W1.heap.size W1).drew
  clear q3 q7 h7 hkc htc HKC HTG HIH
  go_wp2_with fail
  refine wp_region_held_drew (S:=(fun w9=> w9.cell? ⟨w.heap.size,0,none⟩=some (.slice (some ⟨b0,off,none⟩) L.length c)∧w9.cell? ⟨W0.heap.size,6,none⟩=some (.slice (some ⟨bt,ot,none⟩) L[k].d.tags.length c3)∧w9.cell? ⟨W0.heap.size,7,none⟩=some (.slice (some ⟨bk,ok,none⟩) L[k].d.kids.length c4)∧w9.cell? ⟨bt,ot,none⟩=some (.int .i64 tg)∧w9.cell? ⟨bk,ok+1,none⟩=some (.int .i64 q))) (by kernel_rfl) ?_ (fun hHeld=> ?_)
  ·(try dsimp only);exact ⟨s0,t6,t7,ht1,hk1⟩
  refine rgTake 0 (some 23) hHeld _ ?_;try go_frame
  refine rgTake 1 (some 24) hHeld _ ?_;try go_frame
  refine rgTake 2 (some 25) hHeld _ ?_;try go_frame
  refine rgTake 3 (some 26) hHeld _ ?_;try go_frame
  refine rgTake 4 (some 27) hHeld _ ?_;try go_frame
  refine rgTake 5 (some 28) hHeld _ ?_;try go_frame
  refine rgTake 6 (some 29) hHeld _ ?_;try go_frame
  refine rgTake 7 (some 30) hHeld _ ?_;try go_frame
  refine rgTake 8 (some 31) hHeld _ ?_;try go_frame
  refine rgStep 9 (fun K hK=> ?_)
  go_simp
  refine (HI.out _ (below_step bq H1.out)).mono ?_;rintro e5 w5 ⟨x,rfl,hxo,hxs,bel⟩;obtain ⟨A5,c5,e5, -⟩:=hxo.own.rd.bytes.open_;obtain ⟨A6,c6,e6, -⟩:=hxo.own.rd.its.open_;unfold vmV;rw [e5,e6];have hz5:=bq.size;have bq:=below_step bel bq;have HXO:=Lib.hid (And.intro hxo (And.intro hxs (And.intro e5 e6)));clear hxo hxs e5 e6
  (try go_wp2_with fail)
  refine hK.out _ _ ?_ (fun hHeld=> ?_)
  ·(try dsimp only);first|exact ⟨cell_later bq s0,cell_later bq t6,cell_later bq t7,cell_later bq ht1,cell_later bq hk1⟩|exact ⟨es0,et6,et7,eht,ehk⟩
  clear hK K
  try go_frame
  refine rgStep 10 (fun K hK=> ?_)
  (try go_simp)
  obtain ⟨X3,hX3⟩:∃V,V=w5.alloc (.cells #[.int .i64 x.n, .slice A5 x.b.length c5, .slice A6 x.items.length c6] 29):=⟨_,rfl⟩;rw [←hX3];have hbl:Below w5.heap.size w5 X3:=(by rw [hX3];exact (Below.refl _ _).alloc (Nat.le_refl _) _);have hbk3:Blk X3 w5.heap.size 29 (vmCells x).toArray:=(by rw [hX3];unfold vmCells;rw [HXO.out.2.2.1,HXO.out.2.2.2];exact Blk.new w5 _ _);have HG:=Lib.hid (Grow.one hbk3 (HXO.out.1.keep (Out.of_below hbl 0 0) (.inr (Nat.zero_le _))) (show w.heap.size+3≤W1.drew.heap.size by exact hz1') hz5 (by have:=bq.size;omega) (show w.heap.size+2 < w.heap.size+3 by omega));have bq:=below_step hbl bq;have Kq:=KV.out.below bq;obtain ⟨⟨q0,q1,q2⟩,g0,g1,g2⟩:=Kq.c3;clear hX3 hbl hbk3
  refine hK.out _ _ ?_ (fun hHeld=> ?_)
  ·(try dsimp only);first|exact ⟨cell_later bq s0,cell_later bq t6,cell_later bq t7,cell_later bq ht1,cell_later bq hk1⟩|exact ⟨es0,et6,et7,eht,ehk⟩
  clear hK K
  try go_frame
  refine rgTake 11 (some 34) hHeld _ ?_;try go_frame
  refine rgStep 12 (fun K hK=> ?_)
  (try go_simp)
  go_simp;have es0:=((KD.out.below bq).other3 (q:=w.heap.size+1) (by omega) (.int .i64 tg) (.slice none 0 0) (.slice (some ⟨w5.heap.size,0,none⟩) 1 1)).cell 0 rfl;have er:=((KR.out.below bq).other3 (q:=w.heap.size+1) (by omega) (.int .i64 tg) (.slice none 0 0) (.slice (some ⟨w5.heap.size,0,none⟩) 1 1));have et6:=er.cell 6 rfl;have et7:=er.cell 7 rfl;have bw:=below_put3 (below_step bq H1.out) (show w.heap.size≤w.heap.size+1 by omega) (.int .i64 tg) (.slice none 0 0) (.slice (some ⟨w5.heap.size,0,none⟩) 1 1);have eht:=HTT.out _ bw;have ehk:=HKK.out _ bw;have Kz:=Kq.put3 (.int .i64 tg) (.slice none 0 0) (.slice (some ⟨w5.heap.size,0,none⟩) 1 1)
  refine hK.out _ _ ?_ (fun hHeld=> ?_)
  ·(try dsimp only);first|exact ⟨cell_later bq s0,cell_later bq t6,cell_later bq t7,cell_later bq ht1,cell_later bq hk1⟩|exact ⟨es0,et6,et7,eht,ehk⟩
  clear hK K
  try go_frame
  refine wpAnyH_done (by kernel_rfl) ?_ _
  obtain ⟨⟨z0,z1,z2⟩, -⟩:=Kz.c3
  obtain ⟨y,hyv,hyd,hyo⟩:=Grow.done (w:=w) (g:=w.heap.size+1) HG.out (by omega) (by omega) tg
  have HF:=Lib.hid (And.intro hyv (And.intro hyo (And.intro (show y.d.size≤8*5 ^ k by rw [hyd,List.map_cons,List.map_nil,Val.size_mk,Val.sizes_cons,Val.sizes_nil];have:=HXO.out.2.1;have:=HPW.out;simp only [List.length_nil];omega) bw)))
  clear bw bq Kq Kz es0 er et6 et7 eht ehk s0 t0 t1 t2 t3 t4 t5 t6 t7 ht1 hk1 q0 q1 q2 g0 g1 g2 hHeld hyv hyd hyo
  go_wp2
  exact bodyPost_ret (v:= .agg #[.int .i64 tg, .slice none 0 0, .slice (some ⟨w5.heap.size,0,none⟩) 1 1]) (by simp [results,Tryd.results102,go_sem,z0,z1,z2]) rfl ⟨y,by rw [HF.out.1],HF.out.2.1,HF.out.2.2.1,HF.out.2.2.2⟩
 by_cases q6:L[k].d.kind=6
 ·rw [q6] at t1
  clear q3 q7 q6
  have HKL:=Lib.hid (show L[k].d.kids.length≤4 from hrl.1)
  clear HTG hrl
  obtain ⟨W2,hW2⟩:∃W2,W2=W1.alloc (.cells #[.int .i64 0, .slice none 0 0, .slice none 0 0] 29):=⟨_,rfl⟩
  have h12:Below W1.heap.size W1 W2:=by rw [hW2];exact (Below.refl _ _).alloc (Nat.le_refl _) _
  have kx0:Blk W2 W1.heap.size 29 #[.int .i64 0, .slice none 0 0, .slice none 0 0]:=by rw [hW2];exact Blk.new W1 _ _
  have HS:=Lib.hid (And.intro h12 kx0)
  go_upto_region 10 with fail
  rw [←hW2]
  clear hW2 h12 kx0 s0 t0 t1 t2 t3 t4 t5 t6 t7
  go_wp2
  go_loopw [7] (fun jv wr=> ∃(Ai:Option Addr) (ci:Nat) (Dl:List VM),Dl.length≤L[k].d.kids.length∧jv= .int .i64 Dl.length∧Blk wr W1.heap.size 29 #[.int .i64 0, .slice none 0 0, .slice Ai Dl.length ci]∧Hid (Grow wr (W1.heap.size+1) W1.heap.size [] (.slice none 0 0) (.slice Ai Dl.length ci) Dl)∧Hid (Val.sizes (Dl.map VM.d)≤Dl.length*(2*5 ^ k))∧Below W1.heap.size W1 wr) (fun jv _=> L[k].d.kids.length - (intOf jv).toNat)
  case atStart=> exact ⟨none,0, [],Nat.zero_le _,rfl,HS.out.2,Lib.hid (Grow.mk0 (World.ownsRow_nil _ _ _ _) (World.ownsRow_nil _ _ _ _) (fun e=> by cases e) (fun e=> by cases e) (fun g e=> by cases e)),Lib.hid (by simp [Val.sizes_nil]),HS.out.1⟩
  case round=>
   obtain ⟨Ai,ci,Dl,hj,rfl,hkx,HG,HSZ,hbl⟩:=hrel
   have hsz:=hbl.size
   have hxl:=hkx.lt
   have s0:wr.cell? ⟨w.heap.size,0,none⟩=some (.slice (some ⟨b0,off,none⟩) L.length c):=(KD.out.below hbl).cell 0 rfl
   obtain ⟨⟨t0,t1,t2,t3,t4,t5,t6,t7⟩, -⟩:=(KR.out.below hbl).c8
   obtain ⟨⟨x0,x1,x2⟩, -⟩:=hkx.c3
   have HB:=Lib.hid (And.intro hbl (And.intro (below_step hbl H1.out) hkx))
   clear hbl hkx
   by_cases hlt:Dl.length < L[k].d.kids.length
   ·obtain ⟨q,bk,ok,A5,c5,e5,e6,hbk,hqk,hkc⟩:=HKC.out Dl.length hlt
    simp only [Value.slice.injEq] at e5
    obtain ⟨rfl, -,rfl⟩:=e5
    subst e6
    have hk1:=hkc wr HB.out.2.1
    have hbkw:bk < w.heap.size:=by omega
    have HI:=Lib.hid (HIH.out q hqk)
    have HPW:=Lib.hid (pow_step hqk)
    have HLT:=Lib.hid HG.out.row.lt
    have hkl4:=HKL.out
    have bq:=(Below.refl wr.heap.size wr).drew
    clear hkc
    go_wp2_with fail
    refine wp_region_x_drew (S:=(fun w9=> w9.cell? ⟨w.heap.size,0,none⟩=some (.slice (some ⟨b0,off,none⟩) L.length c)∧w9.cell? ⟨W0.heap.size,7,none⟩=some (.slice (some ⟨bk,ok,none⟩) L[k].d.kids.length c4)∧w9.cell? ⟨bk,ok+Dl.length,none⟩=some (.int .i64 q)∧w9.cell? ⟨W1.heap.size,2,none⟩=some (.slice Ai Dl.length ci))) 12 (by kernel_rfl) ?_ (fun hHeld=> ?_)
    ·(try dsimp only);exact ⟨s0,t7,hk1,x2⟩
    refine rxTake 0 (some 46) hHeld _ ?_;try go_frame
    refine rxTake 1 (some 47) hHeld _ ?_;try go_frame
    refine rxTake 2 (some 48) hHeld _ ?_;try go_frame
    refine rxTake 3 (some 49) hHeld _ ?_;try go_frame
    refine rxTake 4 (some 50) hHeld _ ?_;try go_frame
    refine rxTake 5 (some 51) hHeld _ ?_;try go_frame
    refine rxTake 6 (some 52) hHeld _ ?_;try go_frame
    refine rxTake 7 (some 53) hHeld _ ?_;try go_frame
    refine rxStep 8 (fun K hK=> ?_)
    go_simp
    refine (HI.out _ (below_step bq HB.out.2.1)).mono ?_;rintro e5 w5 ⟨x,rfl,hxo,hxs,bel⟩;obtain ⟨A5,c5,e5, -⟩:=hxo.own.rd.bytes.open_;obtain ⟨A6,c6,e6, -⟩:=hxo.own.rd.its.open_;unfold vmV;rw [e5,e6];have hz5:=bel.size;have HG5:=Lib.hid (Grow.below HG.out (below_step bel bq));have bq:=below_step bel bq;have HXO:=Lib.hid (And.intro hxo (And.intro hxs (And.intro e5 e6)));clear hxo hxs e5 e6
    (try go_wp2_with fail)
    refine hK.out _ _ ?_ (fun hHeld=> ?_)
    ·(try dsimp only);first|exact ⟨cell_rowD hg2 (cell_later bq s0) (fun e=> by have:=HLT.out _ e;omega),cell_rowD hg2 (cell_later bq t7) (fun e=> by have:=HLT.out _ e;omega),cell_rowD hg2 (cell_later bq hk1) (fun e=> by have:=HLT.out _ e;omega),cell_rowD hg2 (cell_later bq x2) (fun e=> by have:=HLT.out _ e;omega)⟩|exact ⟨cell_later bq s0,cell_later bq t7,cell_later bq hk1,cell_later bq x2⟩
    clear hK K
    try go_frame
    refine rxStep 9 (fun K hK=> ?_)
    (try go_simp)
    obtain ⟨X3,hX3⟩:∃V,V=w5.alloc (.cells #[.int .i64 x.n, .slice A5 x.b.length c5, .slice A6 x.items.length c6] 29):=⟨_,rfl⟩;rw [←hX3];have hbl:Below w5.heap.size w5 X3:=(by rw [hX3];exact (Below.refl _ _).alloc (Nat.le_refl _) _);have hsl:=Lib.hid (show Sl X3 (w5.heap.size+1) 3 (.slice (some ⟨w5.heap.size,0,none⟩) 1 1) 1 (vmCells x) by rw [hX3];exact blk_sl1 (xs:=vmCells x) (by unfold vmCells;rw [HXO.out.2.2.1,HXO.out.2.2.2];exact Blk.new w5 _ _) rfl (Nat.lt_succ_self _));have bq:=below_step hbl bq;have HBL:=Lib.hid hbl;have hz3:=bq.size;clear hX3 hbl
    refine hK.out _ _ ?_ (fun hHeld=> ?_)
    ·(try dsimp only);first|exact ⟨cell_rowD hg2 (cell_later bq s0) (fun e=> by have:=HLT.out _ e;omega),cell_rowD hg2 (cell_later bq t7) (fun e=> by have:=HLT.out _ e;omega),cell_rowD hg2 (cell_later bq hk1) (fun e=> by have:=HLT.out _ e;omega),cell_rowD hg2 (cell_later bq x2) (fun e=> by have:=HLT.out _ e;omega)⟩|exact ⟨cell_later bq s0,cell_later bq t7,cell_later bq hk1,cell_later bq x2⟩
    clear hK K
    try go_frame
    refine rxStep 10 (fun K hK=> ?_)
    refine wp_app _ (.tmp 47) (.tmp 55) 27 rfl (W1.heap.size+1) 29 i0 (.agg #[.int .i64 0, .slice none 0 0, .slice none 0 0]) 3 56 Tryd.underlying27 hi0 hz0 hz1 hz2 rfl (by decide) _ Dl.length (Dl.flatMap vmCells) rfl (by exact (Grow.below HG5.out HBL.out).row) _ 1 _ (vmCells x) rfl (by exact hsl.out) (vmCells_one HXO.out.2.2.1 HXO.out.2.2.2) (by omega) (by unfold maxLen;omega) (by omega) ?_;intro v2 w6 own2 hg2 hv2;obtain ⟨An,cn,rfl⟩:=own_slice own2;have kx6:=Blk.row (HB.out.2.2.below bq) hg2 (fun e=> by have:=HLT.out _ e;omega);obtain ⟨⟨y0,y1,y2⟩,f0,f1,f2⟩:=kx6.c3;have HG6:=Lib.hid (Grow.snoc HG5.out HXO.out.1 (fun g hg'=> (List.mem_cons.1 hg').elim (fun e=> by rw [e];exact hxl) (fun h=> (Grow.lt HG.out g h).2)) hz5 (show W1.heap.size+1≤wr.heap.size by omega) HBL.out own2 hg2 hv2);have hb6:Below W1.heap.size W1 w6:=(below_step bq HB.out.1).grown hg2 (by omega) (fun q e=> by have:=HLT.out q e;omega);have H6:=Lib.hid (And.intro kx6 hb6);clear own2 hv2 kx6 hb6
    refine hK.out _ _ ?_ (fun hHeld=> ?_)
    ·(try dsimp only);first|exact ⟨cell_rowD hg2 (cell_later bq s0) (fun e=> by have:=HLT.out _ e;omega),cell_rowD hg2 (cell_later bq t7) (fun e=> by have:=HLT.out _ e;omega),cell_rowD hg2 (cell_later bq hk1) (fun e=> by have:=HLT.out _ e;omega),cell_rowD hg2 (cell_later bq x2) (fun e=> by have:=HLT.out _ e;omega)⟩|exact ⟨cell_later bq s0,cell_later bq t7,cell_later bq hk1,cell_later bq x2⟩
    clear hK K
    try go_frame
    refine rxTake 11 (some 57) hHeld _ ?_;try go_frame
    refine rxLast (fun K hK=> ?_)
    (try go_simp)
    go_simp
    refine hK.out _ _ ?_
    clear hK K
    try go_frame
    refine wpAnyX_done (by kernel_rfl) ?_ _
    have H7:=Lib.hid (And.intro (H6.out.1.set 2 (.slice An (Dl.length+1) cn)) (And.intro (Grow.store (i:=2) HG6.out (.slice An (Dl.length+1) cn)) (H6.out.2.setCell (p:=⟨W1.heap.size,2,none⟩) (Nat.le_refl _) (.slice An (Dl.length+1) cn))))
    have HSZ2:=Lib.hid (show Val.sizes ((Dl++ [x]).map VM.d)≤(Dl++ [x]).length*(2*5 ^ k) by
     rw [List.map_append,Val.sizes_append,List.map_cons,List.map_nil,Val.sizes_cons,Val.sizes_nil,List.length_append,List.length_singleton,Nat.succ_mul]
     have h1:=HSZ.out
     have h2:=HXO.out.2.1
     have h3:=HPW.out
     omega)
    clear bq s0 t0 t1 t2 t3 t4 t5 t6 t7 x0 x1 x2 y0 y1 y2 f0 f1 f2 hk1 hg2 hsl
    go_wp2
    go_roundw
    case rel=> exact ⟨An,cn,Dl++ [x],by rw [List.length_append,List.length_singleton];omega,by rw [List.length_append,List.length_singleton];go_num,by rw [List.length_append,List.length_singleton];exact H7.out.1,Lib.hid (by rw [List.length_append,List.length_singleton];exact H7.out.2.1),Lib.hid HSZ2.out,H7.out.2.2⟩
    case measure=> simp [intOf];omega
   ·have hje:Dl.length=L[k].d.kids.length:=by omega
    clear s0 t0 t1 t2 t3 t4 t5 t6
    obtain ⟨x,hxv,hxd,hxo⟩:=Grow.done (w:=w) (g:=w.heap.size+1) HG.out (by omega) (by omega) 0
    have hxs:x.d.size≤8*5 ^ k:=by
     rw [hxd,Val.size_mk]
     have h1:=HSZ.out
     have h2:Dl.length*(2*5 ^ k)≤4*(2*5 ^ k):=Nat.mul_le_mul_right _ (by have:=HKL.out;omega)
     simp only [List.length_nil]
     omega
    have Kq:=KV.out.below HB.out.1
    obtain ⟨⟨q0,q1,q2⟩,g0,g1,g2⟩:=Kq.c3
    obtain ⟨⟨z0,z1,z2⟩, -⟩:=(Kq.put3 (.int .i64 0) (.slice none 0 0) (.slice Ai Dl.length ci)).c3
    have HF:=Lib.hid (And.intro hxv (And.intro hxo (And.intro hxs (below_put3 HB.out.2.1 (show w.heap.size≤w.heap.size+1 by omega) (.int .i64 0) (.slice none 0 0) (.slice Ai Dl.length ci)))))
    have hnl:¬(Dl.length:Int) < (L[k].d.kids.length:Int):=by omega
    clear Kq hxv hxd hxo hxs hje
    go_wp2
    exact bodyPost_ret (v:= .agg #[.int .i64 0, .slice none 0 0, .slice Ai Dl.length ci]) (by simp [results,Tryd.results102,go_sem,z0,z1,z2]) rfl ⟨x,by rw [HF.out.1],HF.out.2.1,HF.out.2.2.1,HF.out.2.2.2⟩
 by_cases q9:L[k].d.kind=9
 ·rw [q9] at t1
  clear q3 q7 q6 q9
  have HKL:=Lib.hid (show L[k].d.kids.length≤4 from hrl.1)
  clear HTG hrl
  obtain ⟨W2,hW2⟩:∃W2,W2=W1.alloc (.cells #[.int .i64 0, .slice none 0 0, .slice none 0 0] 29):=⟨_,rfl⟩
  have h12:Below W1.heap.size W1 W2:=by rw [hW2];exact (Below.refl _ _).alloc (Nat.le_refl _) _
  have kx0:Blk W2 W1.heap.size 29 #[.int .i64 0, .slice none 0 0, .slice none 0 0]:=by rw [hW2];exact Blk.new W1 _ _
  have HS:=Lib.hid (And.intro h12 kx0)
  go_upto_region 10 with fail
  rw [←hW2]
  clear hW2 h12 kx0 s0 t0 t1 t2 t3 t4 t5 t6 t7
  go_wp2
  go_loopw [7] (fun jv wr=> ∃(Ai:Option Addr) (ci:Nat) (Dl:List VM),Dl.length≤L[k].d.kids.length∧jv= .int .i64 Dl.length∧Blk wr W1.heap.size 29 #[.int .i64 0, .slice none 0 0, .slice Ai Dl.length ci]∧Hid (Grow wr (W1.heap.size+1) W1.heap.size [] (.slice none 0 0) (.slice Ai Dl.length ci) Dl)∧Hid (Val.sizes (Dl.map VM.d)≤Dl.length*(2*5 ^ k))∧Below W1.heap.size W1 wr) (fun jv _=> L[k].d.kids.length - (intOf jv).toNat)
  case atStart=> exact ⟨none,0, [],Nat.zero_le _,rfl,HS.out.2,Lib.hid (Grow.mk0 (World.ownsRow_nil _ _ _ _) (World.ownsRow_nil _ _ _ _) (fun e=> by cases e) (fun e=> by cases e) (fun g e=> by cases e)),Lib.hid (by simp [Val.sizes_nil]),HS.out.1⟩
  case round=>
   obtain ⟨Ai,ci,Dl,hj,rfl,hkx,HG,HSZ,hbl⟩:=hrel
   have hsz:=hbl.size
   have hxl:=hkx.lt
   have s0:wr.cell? ⟨w.heap.size,0,none⟩=some (.slice (some ⟨b0,off,none⟩) L.length c):=(KD.out.below hbl).cell 0 rfl
   obtain ⟨⟨t0,t1,t2,t3,t4,t5,t6,t7⟩, -⟩:=(KR.out.below hbl).c8
   obtain ⟨⟨x0,x1,x2⟩, -⟩:=hkx.c3
   have HB:=Lib.hid (And.intro hbl (And.intro (below_step hbl H1.out) hkx))
   clear hbl hkx
   by_cases hlt:Dl.length < L[k].d.kids.length
   ·obtain ⟨q,bk,ok,A5,c5,e5,e6,hbk,hqk,hkc⟩:=HKC.out Dl.length hlt
    simp only [Value.slice.injEq] at e5
    obtain ⟨rfl, -,rfl⟩:=e5
    subst e6
    have hk1:=hkc wr HB.out.2.1
    have hbkw:bk < w.heap.size:=by omega
    have HI:=Lib.hid (HIH.out q hqk)
    have HPW:=Lib.hid (pow_step hqk)
    have HLT:=Lib.hid HG.out.row.lt
    have hkl4:=HKL.out
    have bq:=(Below.refl wr.heap.size wr).drew
    clear hkc
    go_wp2_with fail
    refine wp_region_x_drew (S:=(fun w9=> w9.cell? ⟨w.heap.size,0,none⟩=some (.slice (some ⟨b0,off,none⟩) L.length c)∧w9.cell? ⟨W0.heap.size,7,none⟩=some (.slice (some ⟨bk,ok,none⟩) L[k].d.kids.length c4)∧w9.cell? ⟨bk,ok+Dl.length,none⟩=some (.int .i64 q)∧w9.cell? ⟨W1.heap.size,2,none⟩=some (.slice Ai Dl.length ci))) 12 (by kernel_rfl) ?_ (fun hHeld=> ?_)
    ·(try dsimp only);exact ⟨s0,t7,hk1,x2⟩
    refine rxTake 0 (some 46) hHeld _ ?_;try go_frame
    refine rxTake 1 (some 47) hHeld _ ?_;try go_frame
    refine rxTake 2 (some 48) hHeld _ ?_;try go_frame
    refine rxTake 3 (some 49) hHeld _ ?_;try go_frame
    refine rxTake 4 (some 50) hHeld _ ?_;try go_frame
    refine rxTake 5 (some 51) hHeld _ ?_;try go_frame
    refine rxTake 6 (some 52) hHeld _ ?_;try go_frame
    refine rxTake 7 (some 53) hHeld _ ?_;try go_frame
    refine rxStep 8 (fun K hK=> ?_)
    go_simp
    refine (HI.out _ (below_step bq HB.out.2.1)).mono ?_;rintro e5 w5 ⟨x,rfl,hxo,hxs,bel⟩;obtain ⟨A5,c5,e5, -⟩:=hxo.own.rd.bytes.open_;obtain ⟨A6,c6,e6, -⟩:=hxo.own.rd.its.open_;unfold vmV;rw [e5,e6];have hz5:=bel.size;have HG5:=Lib.hid (Grow.below HG.out (below_step bel bq));have bq:=below_step bel bq;have HXO:=Lib.hid (And.intro hxo (And.intro hxs (And.intro e5 e6)));clear hxo hxs e5 e6
    (try go_wp2_with fail)
    refine hK.out _ _ ?_ (fun hHeld=> ?_)
    ·(try dsimp only);first|exact ⟨cell_rowD hg2 (cell_later bq s0) (fun e=> by have:=HLT.out _ e;omega),cell_rowD hg2 (cell_later bq t7) (fun e=> by have:=HLT.out _ e;omega),cell_rowD hg2 (cell_later bq hk1) (fun e=> by have:=HLT.out _ e;omega),cell_rowD hg2 (cell_later bq x2) (fun e=> by have:=HLT.out _ e;omega)⟩|exact ⟨cell_later bq s0,cell_later bq t7,cell_later bq hk1,cell_later bq x2⟩
    clear hK K
    try go_frame
    refine rxStep 9 (fun K hK=> ?_)
    (try go_simp)
    obtain ⟨X3,hX3⟩:∃V,V=w5.alloc (.cells #[.int .i64 x.n, .slice A5 x.b.length c5, .slice A6 x.items.length c6] 29):=⟨_,rfl⟩;rw [←hX3];have hbl:Below w5.heap.size w5 X3:=(by rw [hX3];exact (Below.refl _ _).alloc (Nat.le_refl _) _);have hsl:=Lib.hid (show Sl X3 (w5.heap.size+1) 3 (.slice (some ⟨w5.heap.size,0,none⟩) 1 1) 1 (vmCells x) by rw [hX3];exact blk_sl1 (xs:=vmCells x) (by unfold vmCells;rw [HXO.out.2.2.1,HXO.out.2.2.2];exact Blk.new w5 _ _) rfl (Nat.lt_succ_self _));have bq:=below_step hbl bq;have HBL:=Lib.hid hbl;have hz3:=bq.size;clear hX3 hbl
    refine hK.out _ _ ?_ (fun hHeld=> ?_)
    ·(try dsimp only);first|exact ⟨cell_rowD hg2 (cell_later bq s0) (fun e=> by have:=HLT.out _ e;omega),cell_rowD hg2 (cell_later bq t7) (fun e=> by have:=HLT.out _ e;omega),cell_rowD hg2 (cell_later bq hk1) (fun e=> by have:=HLT.out _ e;omega),cell_rowD hg2 (cell_later bq x2) (fun e=> by have:=HLT.out _ e;omega)⟩|exact ⟨cell_later bq s0,cell_later bq t7,cell_later bq hk1,cell_later bq x2⟩
    clear hK K
    try go_frame
    refine rxStep 10 (fun K hK=> ?_)
    refine wp_app _ (.tmp 47) (.tmp 55) 27 rfl (W1.heap.size+1) 29 i0 (.agg #[.int .i64 0, .slice none 0 0, .slice none 0 0]) 3 56 Tryd.underlying27 hi0 hz0 hz1 hz2 rfl (by decide) _ Dl.length (Dl.flatMap vmCells) rfl (by exact (Grow.below HG5.out HBL.out).row) _ 1 _ (vmCells x) rfl (by exact hsl.out) (vmCells_one HXO.out.2.2.1 HXO.out.2.2.2) (by omega) (by unfold maxLen;omega) (by omega) ?_;intro v2 w6 own2 hg2 hv2;obtain ⟨An,cn,rfl⟩:=own_slice own2;have kx6:=Blk.row (HB.out.2.2.below bq) hg2 (fun e=> by have:=HLT.out _ e;omega);obtain ⟨⟨y0,y1,y2⟩,f0,f1,f2⟩:=kx6.c3;have HG6:=Lib.hid (Grow.snoc HG5.out HXO.out.1 (fun g hg'=> (List.mem_cons.1 hg').elim (fun e=> by rw [e];exact hxl) (fun h=> (Grow.lt HG.out g h).2)) hz5 (show W1.heap.size+1≤wr.heap.size by omega) HBL.out own2 hg2 hv2);have hb6:Below W1.heap.size W1 w6:=(below_step bq HB.out.1).grown hg2 (by omega) (fun q e=> by have:=HLT.out q e;omega);have H6:=Lib.hid (And.intro kx6 hb6);clear own2 hv2 kx6 hb6
    refine hK.out _ _ ?_ (fun hHeld=> ?_)
    ·(try dsimp only);first|exact ⟨cell_rowD hg2 (cell_later bq s0) (fun e=> by have:=HLT.out _ e;omega),cell_rowD hg2 (cell_later bq t7) (fun e=> by have:=HLT.out _ e;omega),cell_rowD hg2 (cell_later bq hk1) (fun e=> by have:=HLT.out _ e;omega),cell_rowD hg2 (cell_later bq x2) (fun e=> by have:=HLT.out _ e;omega)⟩|exact ⟨cell_later bq s0,cell_later bq t7,cell_later bq hk1,cell_later bq x2⟩
    clear hK K
    try go_frame
    refine rxTake 11 (some 57) hHeld _ ?_;try go_frame
    refine rxLast (fun K hK=> ?_)
    (try go_simp)
    go_simp
    refine hK.out _ _ ?_
    clear hK K
    try go_frame
    refine wpAnyX_done (by kernel_rfl) ?_ _
    have H7:=Lib.hid (And.intro (H6.out.1.set 2 (.slice An (Dl.length+1) cn)) (And.intro (Grow.store (i:=2) HG6.out (.slice An (Dl.length+1) cn)) (H6.out.2.setCell (p:=⟨W1.heap.size,2,none⟩) (Nat.le_refl _) (.slice An (Dl.length+1) cn))))
    have HSZ2:=Lib.hid (show Val.sizes ((Dl++ [x]).map VM.d)≤(Dl++ [x]).length*(2*5 ^ k) by
     rw [List.map_append,Val.sizes_append,List.map_cons,List.map_nil,Val.sizes_cons,Val.sizes_nil,List.length_append,List.length_singleton,Nat.succ_mul]
     have h1:=HSZ.out
     have h2:=HXO.out.2.1
     have h3:=HPW.out
     omega)
    clear bq s0 t0 t1 t2 t3 t4 t5 t6 t7 x0 x1 x2 y0 y1 y2 f0 f1 f2 hk1 hg2 hsl
    go_wp2
    go_roundw
    case rel=> exact ⟨An,cn,Dl++ [x],by rw [List.length_append,List.length_singleton];omega,by rw [List.length_append,List.length_singleton];go_num,by rw [List.length_append,List.length_singleton];exact H7.out.1,Lib.hid (by rw [List.length_append,List.length_singleton];exact H7.out.2.1),Lib.hid HSZ2.out,H7.out.2.2⟩
    case measure=> simp [intOf];omega
   ·have hje:Dl.length=L[k].d.kids.length:=by omega
    clear s0 t0 t1 t2 t3 t4 t5 t6
    obtain ⟨x,hxv,hxd,hxo⟩:=Grow.done (w:=w) (g:=w.heap.size+1) HG.out (by omega) (by omega) 0
    have hxs:x.d.size≤8*5 ^ k:=by
     rw [hxd,Val.size_mk]
     have h1:=HSZ.out
     have h2:Dl.length*(2*5 ^ k)≤4*(2*5 ^ k):=Nat.mul_le_mul_right _ (by have:=HKL.out;omega)
     simp only [List.length_nil]
     omega
    have Kq:=KV.out.below HB.out.1
    obtain ⟨⟨q0,q1,q2⟩,g0,g1,g2⟩:=Kq.c3
    obtain ⟨⟨z0,z1,z2⟩, -⟩:=(Kq.put3 (.int .i64 0) (.slice none 0 0) (.slice Ai Dl.length ci)).c3
    have HF:=Lib.hid (And.intro hxv (And.intro hxo (And.intro hxs (below_put3 HB.out.2.1 (show w.heap.size≤w.heap.size+1 by omega) (.int .i64 0) (.slice none 0 0) (.slice Ai Dl.length ci)))))
    have hnl:¬(Dl.length:Int) < (L[k].d.kids.length:Int):=by omega
    clear Kq hxv hxd hxo hxs hje
    go_wp2
    exact bodyPost_ret (v:= .agg #[.int .i64 0, .slice none 0 0, .slice Ai Dl.length ci]) (by simp [results,Tryd.results102,go_sem,z0,z1,z2]) rfl ⟨x,by rw [HF.out.1],HF.out.2.1,HF.out.2.2.1,HF.out.2.2.2⟩
 ·have hb3:(L[k].d.kind==3)=false:=by simp [q3]
  have hb7:(L[k].d.kind==7)=false:=by simp [q7]
  have hb6:(L[k].d.kind==6)=false:=by simp [q6]
  have hb9:(L[k].d.kind==9)=false:=by simp [q9]
  clear q3 q7 q6 q9
  obtain ⟨x,hxv,hxd,hxo⟩:=Grow.done (w:=w) (Grow.mk0 (w:=W1) (lo:=w.heap.size+3) (o:=w.heap.size+2) (vb:= .slice none 0 0) (vi:= .slice none 0 0) (b:= []) (World.ownsRow_nil _ _ _ _) (World.ownsRow_nil _ _ _ _) (fun e=> by cases e) (fun e=> by cases e) (fun g e=> by cases e)) (show w.heap.size+1 < w.heap.size+3 by omega) (by omega) (0)
  have hxs:x.d.size≤8*5 ^ k:=by rw [hxd];simp [Val.size_mk,Val.sizes_nil]
  have Kq:=KV.out
  obtain ⟨⟨q0,q1,q2⟩,g0,g1,g2⟩:=Kq.c3
  obtain ⟨⟨z0,z1,z2⟩, -⟩:=(Kq.put3 (.int .i64 0) (.slice none 0 0) (.slice none 0 0)).c3
  have HF:=Lib.hid (And.intro hxv (And.intro hxo (And.intro hxs (below_put3 (H1.out) (show w.heap.size≤w.heap.size+1 by omega) (.int .i64 0) (.slice none 0 0) (.slice none 0 0)))))
  clear Kq hxv hxd hxo hxs
  go_wp2
  exact bodyPost_ret (v:= .agg #[.int .i64 0, .slice none 0 0, .slice none 0 0]) (by simp [results,Tryd.results102,go_sem,z0,z1,z2]) rfl ⟨x,by rw [HF.out.1],HF.out.2.1,HF.out.2.2.1,HF.out.2.2.2⟩
end Go.Proofs.YteldgdelmaeokaaDoor
