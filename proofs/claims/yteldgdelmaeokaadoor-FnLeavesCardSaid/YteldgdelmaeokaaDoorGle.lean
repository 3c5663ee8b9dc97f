/- Out of RdK1, RdK2, RdK3: the walks and plain laws that the claim needs. No condition but those that each theorem names. -/
import Derived.Test.YteldgdelmaeokaaDoorGld
set_option linter.unusedSimpArgs false
set_option linter.unusedVariables false
namespace Go.Proofs.YteldgdelmaeokaaDoor
open Go.RowKit
theorem lim_7 {D:List RuleD} {r:RuleD} (h:kindR D r=true) (q:r.kind=7):0≤limitOf D (kid r 0):=by
 unfold kindR at h
 rw [q] at h
 simp only [show ¬((7:Int)=1) by decide,show ¬((7:Int)=2) by decide,show ¬((7:Int)=3) by decide,show ¬((7:Int)=4) by decide,show ¬((7:Int)=5) by decide,show ¬((7:Int)=6) by decide,if_false,if_true,Bool.and_eq_true] at h
 have h2:=h.2
 unfold okTags at h2
 simp only [Bool.and_eq_true,beq_iff_eq] at h2
 have h3:=inB_iff.1 h2.2.1
 have h4:=(allTo_iff _ _).1 h2.2.2 0 (by omega)
 rw [tgAt_zero _ _ (by omega)] at h4
 have:=inB_iff.1 h4
 omega
set_option maxHeartbeats 8000000 in
set_option maxRecDepth 100000 in
theorem l11Choice_any (L:List RM) (sm:∀r∈L,r.d.small 1048576) (hv:validD (L.map RM.d)=true) (k:Nat) (hk:k < L.length) (ih:∀q,q < k→RdC L q) (f:Nat) (hf:k≤f) (vD vb:Value) (b:List UInt8) (i B:Nat) (w:World)
  (h:SlD w B vD L) (hb:SlB w B vb b) (hB:B≤w.heap.size) (hi:i≤b.length) (hl:b.length≤400) (qk:L[k].d.kind=7):
  Calls Tryd.prog 118 #[.agg #[vD],rmV L[k],vb, .int .i64 i] w (RdR (rdB (L.map RM.d) b (gE (L.map RM.d) b f) L[k].d k i) w):=by
 have hlm:(L.map RM.d).length=L.length:=List.length_map ..
 have hro:=validD_at hv (k:=k) (by rw [hlm];exact hk)
 rw [List.getElem_map] at hro
 have hkind:=ruleOk_kind hro
 have hf0:=(validD_facts hv).2 k (by rw [hlm];exact hk)
 rw [List.getElem_map] at hf0
 have hIS:∀(n:Int) (cnt p:Nat),cnt≤255→p≤b.length→(∀j,j < cnt→∃q:Nat,itemR L[k].d n j=q∧q < k)→∀W,Below w.heap.size w W→Calls Tryd.prog 117 #[.agg #[vD],rmV L[k], .int .i64 n, .int .i64 cnt,vb, .int .i64 p] W (RdR ((itE (gE (L.map RM.d) b f) (itR L[k].d n cnt) p).map fun x=> (0,cnt,x)) W):=fun n cnt p h4 hp hj W hw=>
  l11Items_any L sm hv k hk ih f hf vD vb b n cnt p B W (h.below (hw.mono hB)) (hb.below (hw.mono hB)) (by have:=hw.size;omega) hp hl h4 hj
 have h7:=hf0.c7 qk
 obtain ⟨q0,hq0, -,ek0, -,hs1,hs4, -⟩:=fldL hv hk (by omega) (lim_7 hkind qk)
 have hIN:∀W,Below w.heap.size w W→Calls Tryd.prog 105 #[.agg #[vD], .int .i64 q0,vb, .int .i64 i] W fun e w'=> e= .returned (riT (rdI (L.map RM.d) b q0 i) i)∧Below W.heap.size W w':=fun W hw=>
  l11Int_any vD vb L b q0 i B W (h.below (hw.mono hB)) (hb.below (hw.mono hB)) (by have:=hw.size;omega) hq0 ⟨hs1,hs4⟩ hi hl
 have hI9:∀(n:Int) W,Below w.heap.size w W→Calls Tryd.prog 39 #[rmV L[k], .int .i64 n, .int .i64 0] W fun e w'=> e= .returned (.int .i64 (itemR L[k].d n 0))∧Below W.heap.size W w':=fun n W hw=>
  l9Item_any (L.map RM.d) L[k] n 0 B W ((h.2 _ (List.getElem_mem hk)).below (hw.mono hB)) (by have:=hw.size;omega) hkind (sm _ (List.getElem_mem hk)) (by omega)
 have hQI:∀(n:Int),0≤itemR L[k].d n 0→∀j,j < 1→∃q:Nat,itemR L[k].d n j=q∧q < k:=fun n hn j hj=>
  own_item (nb:=0) hro (by rw [own_7 qk];simp [hn]) hj
 have hKC:∃bk ok A5 c5,L[k].vk= .slice A5 L[k].d.kids.length c5∧A5=some ⟨bk,ok,none⟩∧bk < B∧∀W,Below w.heap.size w W→W.cell? ⟨bk,ok,none⟩=some (.int .i64 q0):=by
  obtain ⟨A5,c5,e5, -⟩:=(h.2 _ (List.getElem_mem hk)).k.one
  obtain ⟨bk,ok,e6,hbk,hc6⟩:=fld_cells h hk (by omega) e5
  exact ⟨bk,ok,A5,c5,e5,e6,hbk,fun W hw=> by rw [←ek0];exact cell_keep hc6 (hw.mono hB) hbk⟩
 have hOB:rdB (L.map RM.d) b (gE (L.map RM.d) b f) L[k].d k i=(match rdI (L.map RM.d) b q0 i with|none=> none|some (n,e)=> if itemR L[k].d n 0 < 0 then none else (itE (gE (L.map RM.d) b f) (itR L[k].d n 1) e).map fun x=> (n,1,x)):=by
  unfold rdB
  rw [kid_at _ _ (by omega),ek0]
  simp only [qk]
  rfl
 obtain ⟨A,c,rfl,hc,hm, -⟩:=h.open_
 obtain ⟨Ab,cb,rfl,hcb,hmb,hbc⟩:=hb.one
 obtain ⟨b0,off,A1,c1,A2,c2,A3,c3,A4,c4, -, -,e1,e2,e3,e4,m1,m2,m3,m4, -⟩:=rule_cells h k hk
 unfold rmV at hIS hI9 ⊢
 rw [e1,e2,e3,e4] at hIS hI9 ⊢
 have HIS:=Lib.hid hIS
 have HBC:=Lib.hid hbc
 obtain ⟨bk,ok,A5,c5,e5,e6,hbk,hkc⟩:=hKC
 rw [e4] at e5
 simp only [Value.slice.injEq] at e5
 obtain ⟨rfl, -,rfl⟩:=e5
 subst e6
 have HIN:=Lib.hid hIN
 have HI9:=Lib.hid hI9
 have HQI:=Lib.hid hQI
 have HKC:=Lib.hid hkc
 have hRB:∀n e,rdI (L.map RM.d) b q0 i=some (n,e)→i≤e∧e≤b.length∧0≤n:=fun n e h=> rdI_bd h hi
 have HRB:=Lib.hid hRB
 have HOB:=Lib.hid hOB
 have hkl:0 < L[k].d.kids.length:=by omega
 have hbkw:bk < w.heap.size:=by omega
 clear hIN hI9 hQI hkc hOB hRB h7 ek0
 obtain ⟨O,hO⟩:∃O,O=rdB (L.map RM.d) b (gE (L.map RM.d) b f) L[k].d k i:=⟨_,rfl⟩
 rw [←hO]
 have HOE:=Lib.hid hO
 clear hO hIS hbc h hb ih sm hv hlm hkind hf0 hro e1 e2 e3 e4 qk
 unfold maxLen at hm hmb m4
 obtain ⟨W0,hW0⟩:∃W0,W0=((w.alloc (.cells #[.slice A L.length c] 26)).alloc (.cells #[.string L[k].d.name, .int .i64 L[k].d.kind, .int .i64 L[k].d.size, .bool L[k].d.little, .slice A1 L[k].d.bytes.length c1, .slice A2 L[k].d.names.length c2, .slice A3 L[k].d.tags.length c3, .slice (some ⟨bk,ok,none⟩) L[k].d.kids.length c4] 73)).alloc (.cells #[.int .i64 0, .slice none 0 0, .slice none 0 0] 29):=⟨_,rfl⟩
 have hb0:Below w.heap.size w W0:=by rw [hW0];exact (((Below.refl w.heap.size w).alloc (Nat.le_refl _) _).alloc (by simp) _).alloc (by simp;omega) _
 have Kd:Blk W0 w.heap.size 26 #[.slice A L.length c]:=by rw [hW0];exact ((Blk.new w _ _).alloc _).alloc _
 have Kr:Blk W0 (w.heap.size+1) 73 #[.string L[k].d.name, .int .i64 L[k].d.kind, .int .i64 L[k].d.size, .bool L[k].d.little, .slice A1 L[k].d.bytes.length c1, .slice A2 L[k].d.names.length c2, .slice A3 L[k].d.tags.length c3, .slice (some ⟨bk,ok,none⟩) L[k].d.kids.length c4]:=by
  rw [hW0]
  refine Blk.alloc ?_ _
  have:=Blk.new (w.alloc (.cells #[.slice A L.length c] 26)) 73 #[.string L[k].d.name, .int .i64 L[k].d.kind, .int .i64 L[k].d.size, .bool L[k].d.little, .slice A1 L[k].d.bytes.length c1, .slice A2 L[k].d.names.length c2, .slice A3 L[k].d.tags.length c3, .slice (some ⟨bk,ok,none⟩) L[k].d.kids.length c4]
  simpa using this
 have Kv:Blk W0 (w.heap.size+2) 29 #[.int .i64 0, .slice none 0 0, .slice none 0 0]:=by
  rw [hW0]
  have:=Blk.new ((w.alloc (.cells #[.slice A L.length c] 26)).alloc (.cells #[.string L[k].d.name, .int .i64 L[k].d.kind, .int .i64 L[k].d.size, .bool L[k].d.little, .slice A1 L[k].d.bytes.length c1, .slice A2 L[k].d.names.length c2, .slice A3 L[k].d.tags.length c3, .slice (some ⟨bk,ok,none⟩) L[k].d.kids.length c4] 73)) 29 #[.int .i64 0, .slice none 0 0, .slice none 0 0]
  simpa using this
 have hz0:w.heap.size+2 < W0.heap.size:=Kv.lt
 have HB0:=Lib.hid hb0
 have HK:=Lib.hid (And.intro Kd (And.intro Kr Kv))
 have s0:W0.cell? ⟨w.heap.size,0,none⟩=some (.slice A L.length c):=Kd.cell 0 rfl
 obtain ⟨⟨t0,t1,t2,t3,t4,t5,t6,t7⟩, -⟩:=Kr.c8
 clear Kd Kr Kv hb0
 go_enter Tryd.func118,Tryd.ntmps118
 go_upto_region 1 with fail
 rw [←hW0]
 clear hW0
 have hk0:=HKC.out W0 HB0.out
 have hHI:=HIN.out
 have hHB:=HRB.out
 have hHO:=HOE.out.trans HOB.out
 have bq:=(Below.refl W0.heap.size W0).drew
 clear HOE HOB HIN HRB
 cases hR:rdI (L.map RM.d) b q0 i with
 |none=>
  rw [hR] at hHI hHO
  unfold riT at hHI
  have HIN:=Lib.hid hHI
  have HO:Hid (O=none):=Lib.hid hHO
  clear hHI hHB hHO hR
  go_wp2_with fail
  refine wp_region_held_drew (S:=(fun w9=> w9.cell? ⟨w.heap.size,0,none⟩=some (.slice A L.length c)∧w9.cell? ⟨w.heap.size+1,7,none⟩=some (.slice (some ⟨bk,ok,none⟩) L[k].d.kids.length c4)∧w9.cell? ⟨bk,ok,none⟩=some (.int .i64 q0))) (by kernel_rfl) ?_ (fun hHeld=> ?_)
  ·(try dsimp only);exact ⟨s0,t7,hk0⟩
  refine rgTake 0 (some 18) hHeld _ ?_;try go_frame
  refine rgTake 1 (some 19) hHeld _ ?_;try go_frame
  refine rgTake 2 (some 20) hHeld _ ?_;try go_frame
  refine rgTake 3 (some 21) hHeld _ ?_;try go_frame
  refine rgTake 4 (some 22) hHeld _ ?_;try go_frame
  refine rgTake 5 (some 23) hHeld _ ?_;try go_frame
  refine rgTake 6 (some 24) hHeld _ ?_;try go_frame
  refine rgStep 7 (fun K hK=> ?_)
  go_simp
  refine (HIN.out _ (below_step bq HB0.out)).mono ?_;rintro e w3 ⟨rfl,bel⟩;have bq:=below_step bel bq
  (try go_wp2_with fail)
  refine hK.out _ _ ?_ (fun hHeld=> ?_)
  ·(try dsimp only);exact ⟨cell_later bq s0,cell_later bq t7,cell_later bq hk0⟩
  clear hK K
  try go_frame
  refine rgTake 8 (some 17) hHeld _ ?_;try go_frame
  refine rgTake 9 (some 26) hHeld _ ?_;try go_frame
  refine rgTake 10 (some 27) hHeld _ ?_;try go_frame
  refine rgTake 11 (some 28) hHeld _ ?_;try go_frame
  refine rgTake 12 (some 11) hHeld _ ?_;try go_frame
  refine rgTake 13 (some 12) hHeld _ ?_;try go_frame
  refine rgTake 14 (some 13) hHeld _ ?_;try go_frame
  refine wpAnyH_done (by kernel_rfl) ?_ _
  clear s0 t0 t1 t2 t3 t4 t5 t6 t7 hk0 hHeld
  have Kq:=HK.out.2.2.below bq
  obtain ⟨⟨q0,q1,q2⟩,g0,g1,g2⟩:=Kq.c3
  obtain ⟨⟨z0,z1,z2⟩, -⟩:=(Kq.put3 (.int .i64 0) (.slice none 0 0) (.slice none 0 0)).c3
  have HF:=Lib.hid (below_put3 (below_step bq HB0.out) (show w.heap.size≤w.heap.size+2 by omega) (.int .i64 0) (.slice none 0 0) (.slice none 0 0))
  clear Kq
  go_wp2
  exact bodyPost_ret (v:= .tuple #[.agg #[.int .i64 0, .slice none 0 0, .slice none 0 0], .int .i64 i, .int .i64 1]) (by simp [results,Tryd.results118,go_sem,z0,z1,z2]) rfl ⟨0,none,0,0,none,0,0,i,1,rfl,by rw [HO.out];show (1:Int)≠0;decide,HF.out⟩
 |some y=>
  obtain ⟨n,e⟩:=y
  have hne:=hHB n e hR
  rw [hR] at hHI hHO
  unfold riT at hHI
  have HIN:=Lib.hid hHI
  have HO0:=Lib.hid hHO
  clear hHI hHB hHO hR
  go_wp2_with fail
  refine wp_region_held_drew (S:=(fun w9=> w9.cell? ⟨w.heap.size,0,none⟩=some (.slice A L.length c)∧w9.cell? ⟨w.heap.size+1,7,none⟩=some (.slice (some ⟨bk,ok,none⟩) L[k].d.kids.length c4)∧w9.cell? ⟨bk,ok,none⟩=some (.int .i64 q0))) (by kernel_rfl) ?_ (fun hHeld=> ?_)
  ·(try dsimp only);exact ⟨s0,t7,hk0⟩
  refine rgTake 0 (some 18) hHeld _ ?_;try go_frame
  refine rgTake 1 (some 19) hHeld _ ?_;try go_frame
  refine rgTake 2 (some 20) hHeld _ ?_;try go_frame
  refine rgTake 3 (some 21) hHeld _ ?_;try go_frame
  refine rgTake 4 (some 22) hHeld _ ?_;try go_frame
  refine rgTake 5 (some 23) hHeld _ ?_;try go_frame
  refine rgTake 6 (some 24) hHeld _ ?_;try go_frame
  refine rgStep 7 (fun K hK=> ?_)
  go_simp
  refine (HIN.out _ (below_step bq HB0.out)).mono ?_;rintro e w3 ⟨rfl,bel⟩;have bq:=below_step bel bq
  (try go_wp2_with fail)
  refine hK.out _ _ ?_ (fun hHeld=> ?_)
  ·(try dsimp only);exact ⟨cell_later bq s0,cell_later bq t7,cell_later bq hk0⟩
  clear hK K
  try go_frame
  refine rgTake 8 (some 17) hHeld _ ?_;try go_frame
  refine rgTake 9 (some 26) hHeld _ ?_;try go_frame
  refine rgTake 10 (some 27) hHeld _ ?_;try go_frame
  refine rgTake 11 (some 28) hHeld _ ?_;try go_frame
  refine rgTake 12 (some 11) hHeld _ ?_;try go_frame
  refine rgTake 13 (some 12) hHeld _ ?_;try go_frame
  refine rgTake 14 (some 13) hHeld _ ?_;try go_frame
  refine wpAnyH_done (by kernel_rfl) ?_ _
  clear s0 t0 t1 t2 t3 t4 t5 t6 t7 hk0 hHeld
  have s0:w3.cell? ⟨w.heap.size,0,none⟩=some (.slice A L.length c):=(HK.out.1.below bq).cell 0 rfl
  obtain ⟨⟨t0,t1,t2,t3,t4,t5,t6,t7⟩, -⟩:=(HK.out.2.1.below bq).c8
  have H3:=Lib.hid (And.intro bq (below_step bq HB0.out))
  clear bq
  go_wp2_with fail
  refine (HI9.out n _ H3.out.2).mono ?_
  rintro e4 w4 ⟨rfl,bel⟩
  have bq:=below_step bel H3.out.1
  clear s0 t0 t1 t2 t3 t4 t5 t6 t7 bel
  have s0:w4.cell? ⟨w.heap.size,0,none⟩=some (.slice A L.length c):=(HK.out.1.below bq).cell 0 rfl
  obtain ⟨⟨t0,t1,t2,t3,t4,t5,t6,t7⟩, -⟩:=(HK.out.2.1.below bq).c8
  have H4:=Lib.hid (And.intro bq (below_step bq HB0.out))
  clear bq
  by_cases hneg:itemR L[k].d n 0 < 0
  ·have HO:Hid (O=none):=Lib.hid (HO0.out.trans (if_pos hneg))
   clear s0 t0 t1 t2 t3 t4 t5 t6 t7
   have Kq:=HK.out.2.2.below H4.out.1
   obtain ⟨⟨q0,q1,q2⟩,g0,g1,g2⟩:=Kq.c3
   obtain ⟨⟨z0,z1,z2⟩, -⟩:=(Kq.put3 (.int .i64 0) (.slice none 0 0) (.slice none 0 0)).c3
   have HF:=Lib.hid (below_put3 (H4.out.2) (show w.heap.size≤w.heap.size+2 by omega) (.int .i64 0) (.slice none 0 0) (.slice none 0 0))
   clear Kq
   go_wp2
   exact bodyPost_ret (v:= .tuple #[.agg #[.int .i64 0, .slice none 0 0, .slice none 0 0], .int .i64 i, .int .i64 3]) (by simp [results,Tryd.results118,go_sem,z0,z1,z2]) rfl ⟨0,none,0,0,none,0,0,i,3,rfl,by rw [HO.out];show (3:Int)≠0;decide,HF.out⟩
  ·have HO1:=Lib.hid (HO0.out.trans (if_neg hneg))
   have HQ:=Lib.hid (HQI.out n (by omega))
   have hng:¬itemR L[k].d n 0 < 0:=hneg
   go_wp2_with fail
   refine (HIS.out n 1 e (by omega) hne.2.1 HQ.out _ H4.out.2).mono ?_
   rintro e5 w5 ⟨n',B1,m1',d1,B2,m2',d2,next,code,rfl,hrk,bel⟩
   have bq:=below_step bel H4.out.1
   have bw:=below_step bel H4.out.2
   have HRK:=Lib.hid hrk
   have hz5:W0.heap.size≤w5.heap.size:=bq.size
   clear s0 t0 t1 t2 t3 t4 t5 t6 t7 bel hrk hneg hng
   obtain ⟨W6,hW6⟩:∃W6,W6=w5.alloc (.cells #[.int .i64 n', .slice B1 m1' d1, .slice B2 m2' d2] 29):=⟨_,rfl⟩
   have h56:Below w5.heap.size w5 W6:=by rw [hW6];exact (Below.refl _ _).alloc (Nat.le_refl _) _
   have K6:Blk W6 w5.heap.size 29 #[.int .i64 n', .slice B1 m1' d1, .slice B2 m2' d2]:=by rw [hW6];exact Blk.new w5 _ _
   have bq:=below_step h56 bq
   have bw:=below_step h56 bw
   go_upto_region 7 with fail
   rw [←hW6]
   clear hW6
   cases hG:itE (gE (L.map RM.d) b f) (itR L[k].d n 1) e with
   |none=>
    have HO:Hid (O=none):=Lib.hid (by rw [HO1.out,hG];rfl)
    have hcode:code≠0:=by have:=HRK.out;rw [hG] at this;exact this
    have hce:(code==0)=false:=by simp [hcode]
    have HCD:=Lib.hid hcode
    obtain ⟨⟨y0,y1,y2⟩, -⟩:=K6.c3
    have HQQ:=Lib.hid (And.intro bq bw)
    clear hG hcode K6 bq bw h56
    have Kq:=HK.out.2.2.below HQQ.out.1
    obtain ⟨⟨q0,q1,q2⟩,g0,g1,g2⟩:=Kq.c3
    obtain ⟨⟨z0,z1,z2⟩, -⟩:=(Kq.put3 (.int .i64 n') (.slice B1 m1' d1) (.slice B2 m2' d2)).c3
    have HF:=Lib.hid (below_put3 (HQQ.out.2) (show w.heap.size≤w.heap.size+2 by omega) (.int .i64 n') (.slice B1 m1' d1) (.slice B2 m2' d2))
    clear Kq
    go_wp2
    exact bodyPost_ret (v:= .tuple #[.agg #[.int .i64 n', .slice B1 m1' d1, .slice B2 m2' d2], .int .i64 next, .int .i64 code]) (by simp [results,Tryd.results118,go_sem,z0,z1,z2]) rfl ⟨n',B1,m1',d1,B2,m2',d2,next,code,rfl,by rw [HO.out];exact HCD.out,HF.out⟩
   |some x=>
    have HO:Hid (O=some (n,1,x)):=Lib.hid (by rw [HO1.out,hG];rfl)
    have hrk:=HRK.out
    rw [hG] at hrk
    obtain ⟨r1,r2,r3,r4⟩:=hrk
    obtain rfl:m2'=1:=r2
    subst r3 r4
    obtain ⟨⟨y0,y1,y2⟩,v0,v1,v2⟩:=K6.c3
    obtain ⟨W7,hW7⟩:∃W7,W7=W6.setCell ⟨w5.heap.size,0,none⟩ (.int .i64 n):=⟨_,rfl⟩
    have K7:Blk W7 w5.heap.size 29 #[.int .i64 n, .slice B1 m1' d1, .slice B2 1 d2]:=by rw [hW7];exact K6.set 0 _
    have bq7:Below W0.heap.size W0 W7:=by rw [hW7];exact bq.setCell (p:=⟨w5.heap.size,0,none⟩) hz5 _
    have bw7:Below w.heap.size w W7:=by rw [hW7];exact bw.setCell (p:=⟨w5.heap.size,0,none⟩) (by show w.heap.size≤w5.heap.size;omega) _
    have HQQ:=Lib.hid (And.intro bq7 (And.intro bw7 K7))
    clear hG r1 K6 bq bw h56 bq7 bw7 K7
    go_upto_region 9 with fail
    rw [←hW7]
    clear hW7 y0 y1 y2 v0 v1 v2
    obtain ⟨⟨y0,y1,y2⟩, -⟩:=HQQ.out.2.2.c3
    have Kq:=HK.out.2.2.below HQQ.out.1
    obtain ⟨⟨q0,q1,q2⟩,g0,g1,g2⟩:=Kq.c3
    obtain ⟨⟨z0,z1,z2⟩, -⟩:=(Kq.put3 (.int .i64 n) (.slice B1 m1' d1) (.slice B2 1 d2)).c3
    have HF:=Lib.hid (below_put3 (HQQ.out.2.1) (show w.heap.size≤w.heap.size+2 by omega) (.int .i64 n) (.slice B1 m1' d1) (.slice B2 1 d2))
    clear Kq
    go_wp2
    exact bodyPost_ret (v:= .tuple #[.agg #[.int .i64 n, .slice B1 m1' d1, .slice B2 1 d2], .int .i64 x, .int .i64 0]) (by simp [results,Tryd.results118,go_sem,z0,z1,z2]) rfl ⟨n,B1,m1',d1,B2,1,d2,x,0,rfl,by rw [HO.out];exact ⟨rfl,rfl,rfl,rfl⟩,HF.out⟩
end Go.Proofs.YteldgdelmaeokaaDoor
namespace Go.Proofs.YteldgdelmaeokaaDoor
open Go.RowKit
theorem Blk.other3 {W:World} {g q:Nat} {T:TypeId} {cs:Array Value} (h:Blk W g T cs) (hq:q≠g) (u0 u1 u2:Value):Blk (((W.setCell ⟨q,0,none⟩ u0).setCell ⟨q,1,none⟩ u1).setCell ⟨q,2,none⟩ u2) g T cs:=((h.other hq u0).other hq u1).other hq u2
set_option maxHeartbeats 8000000 in
set_option maxRecDepth 100000 in
theorem l11Option_any (L:List RM) (sm:∀r∈L,r.d.small 1048576) (hv:validD (L.map RM.d)=true) (k:Nat) (hk:k < L.length) (ih:∀q,q < k→RdC L q) (f:Nat) (hf:k≤f) (vD vb:Value) (b:List UInt8) (i B:Nat) (w:World)
  (h:SlD w B vD L) (hb:SlB w B vb b) (hB:B≤w.heap.size) (hi:i≤b.length) (hl:b.length≤400) (qk:L[k].d.kind=8):
  Calls Tryd.prog 119 #[.agg #[vD],rmV L[k],vb, .int .i64 i] w (RdR (rdB (L.map RM.d) b (gE (L.map RM.d) b f) L[k].d k i) w):=by
 have hlm:(L.map RM.d).length=L.length:=List.length_map ..
 have hro:=validD_at hv (k:=k) (by rw [hlm];exact hk)
 rw [List.getElem_map] at hro
 have hkind:=ruleOk_kind hro
 have hf0:=(validD_facts hv).2 k (by rw [hlm];exact hk)
 rw [List.getElem_map] at hf0
 have hIS:∀(n:Int) (cnt p:Nat),cnt≤255→p≤b.length→(∀j,j < cnt→∃q:Nat,itemR L[k].d n j=q∧q < k)→∀W,Below w.heap.size w W→Calls Tryd.prog 117 #[.agg #[vD],rmV L[k], .int .i64 n, .int .i64 cnt,vb, .int .i64 p] W (RdR ((itE (gE (L.map RM.d) b f) (itR L[k].d n cnt) p).map fun x=> (0,cnt,x)) W):=fun n cnt p h4 hp hj W hw=>
  l11Items_any L sm hv k hk ih f hf vD vb b n cnt p B W (h.below (hw.mono hB)) (hb.below (hw.mono hB)) (by have:=hw.size;omega) hp hl h4 hj
 have hQI:∀c,c≤1→∀j,j < c→∃q:Nat,itemR L[k].d 0 j=q∧q < k:=fun c hc j hj=>
  own_item (nb:=0) hro (by rw [own_8 qk];simp [hc]) hj
 have hOB:rdB (L.map RM.d) b (gE (L.map RM.d) b f) L[k].d k i=(match b[i]? with|none=> none|some c=> if 1 < c.toNat then none else (itE (gE (L.map RM.d) b f) (itR L[k].d 0 c.toNat) (i+1)).map fun x=> (0,c.toNat,x)):=by
  unfold rdB
  simp only [qk]
  rfl
 obtain ⟨A,c,rfl,hc,hm, -⟩:=h.open_
 obtain ⟨Ab,cb,rfl,hcb,hmb,hbc⟩:=hb.one
 obtain ⟨b0,off,A1,c1,A2,c2,A3,c3,A4,c4, -, -,e1,e2,e3,e4,m1,m2,m3,m4, -⟩:=rule_cells h k hk
 unfold rmV at hIS ⊢
 rw [e1,e2,e3,e4] at hIS ⊢
 have HIS:=Lib.hid hIS
 have HBC:=Lib.hid hbc
 have HQI:=Lib.hid hQI
 have HOB:=Lib.hid hOB
 clear hQI hOB
 obtain ⟨O,hO⟩:∃O,O=rdB (L.map RM.d) b (gE (L.map RM.d) b f) L[k].d k i:=⟨_,rfl⟩
 rw [←hO]
 have HOE:=Lib.hid hO
 clear hO hIS hbc h hb ih sm hv hlm hkind hf0 hro e1 e2 e3 e4 qk
 unfold maxLen at hm hmb m4
 obtain ⟨W0,hW0⟩:∃W0,W0=((w.alloc (.cells #[.slice A L.length c] 26)).alloc (.cells #[.string L[k].d.name, .int .i64 L[k].d.kind, .int .i64 L[k].d.size, .bool L[k].d.little, .slice A1 L[k].d.bytes.length c1, .slice A2 L[k].d.names.length c2, .slice A3 L[k].d.tags.length c3, .slice A4 L[k].d.kids.length c4] 73)).alloc (.cells #[.int .i64 0, .slice none 0 0, .slice none 0 0] 29):=⟨_,rfl⟩
 have hb0:Below w.heap.size w W0:=by rw [hW0];exact (((Below.refl w.heap.size w).alloc (Nat.le_refl _) _).alloc (by simp) _).alloc (by simp;omega) _
 have Kd:Blk W0 w.heap.size 26 #[.slice A L.length c]:=by rw [hW0];exact ((Blk.new w _ _).alloc _).alloc _
 have Kr:Blk W0 (w.heap.size+1) 73 #[.string L[k].d.name, .int .i64 L[k].d.kind, .int .i64 L[k].d.size, .bool L[k].d.little, .slice A1 L[k].d.bytes.length c1, .slice A2 L[k].d.names.length c2, .slice A3 L[k].d.tags.length c3, .slice A4 L[k].d.kids.length c4]:=by
  rw [hW0]
  refine Blk.alloc ?_ _
  have:=Blk.new (w.alloc (.cells #[.slice A L.length c] 26)) 73 #[.string L[k].d.name, .int .i64 L[k].d.kind, .int .i64 L[k].d.size, .bool L[k].d.little, .slice A1 L[k].d.bytes.length c1, .slice A2 L[k].d.names.length c2, .slice A3 L[k].d.tags.length c3, .slice A4 L[k].d.kids.length c4]
  simpa using this
 have Kv:Blk W0 (w.heap.size+2) 29 #[.int .i64 0, .slice none 0 0, .slice none 0 0]:=by
  rw [hW0]
  have:=Blk.new ((w.alloc (.cells #[.slice A L.length c] 26)).alloc (.cells #[.string L[k].d.name, .int .i64 L[k].d.kind, .int .i64 L[k].d.size, .bool L[k].d.little, .slice A1 L[k].d.bytes.length c1, .slice A2 L[k].d.names.length c2, .slice A3 L[k].d.tags.length c3, .slice A4 L[k].d.kids.length c4] 73)) 29 #[.int .i64 0, .slice none 0 0, .slice none 0 0]
  simpa using this
 have hz0:w.heap.size+2 < W0.heap.size:=Kv.lt
 have HB0:=Lib.hid hb0
 have HK:=Lib.hid (And.intro Kd (And.intro Kr Kv))
 have s0:W0.cell? ⟨w.heap.size,0,none⟩=some (.slice A L.length c):=Kd.cell 0 rfl
 obtain ⟨⟨t0,t1,t2,t3,t4,t5,t6,t7⟩, -⟩:=Kr.c8
 clear Kd Kr Kv hb0
 go_enter Tryd.func119,Tryd.ntmps119
 go_upto_region 1 with fail
 rw [←hW0]
 clear hW0
 have hHO:=HOE.out.trans HOB.out
 clear HOE HOB
 by_cases hge:i=b.length
 ·have HO:Hid (O=none):=Lib.hid (by rw [hHO,hge,List.getElem?_eq_none (Nat.le_refl _)])
  have hge':(b.length:Int)≤(i:Int):=by omega
  clear hHO hge t0 t1 t2 t3 t4 t5 t6 t7 s0
  have Kq:=HK.out.2.2
  obtain ⟨⟨q0,q1,q2⟩,g0,g1,g2⟩:=Kq.c3
  obtain ⟨⟨z0,z1,z2⟩, -⟩:=(Kq.put3 (.int .i64 0) (.slice none 0 0) (.slice none 0 0)).c3
  have HF:=Lib.hid (below_put3 (HB0.out) (show w.heap.size≤w.heap.size+2 by omega) (.int .i64 0) (.slice none 0 0) (.slice none 0 0))
  clear Kq
  go_wp2
  exact bodyPost_ret (v:= .tuple #[.agg #[.int .i64 0, .slice none 0 0, .slice none 0 0], .int .i64 i, .int .i64 1]) (by simp [results,Tryd.results119,go_sem,z0,z1,z2]) rfl ⟨0,none,0,0,none,0,0,i,1,rfl,by rw [HO.out];show (1:Int)≠0;decide,HF.out⟩
 ·have hil:i < b.length:=by omega
  obtain ⟨bb,oo,rfl,hbb,hdw⟩:=HBC.out i hil
  have hd:=cell_keep hdw (HB0.out.mono hB) hbb
  unfold u8v at hd hdw
  have hge':¬(b.length:Int)≤(i:Int):=by omega
  have hil':(i:Int) < (b.length:Int):=by omega
  have hbbw:bb < w.heap.size:=by omega
  have HDW:=Lib.hid hdw
  rw [List.getElem?_eq_getElem hil] at hHO
  have HO0:=Lib.hid hHO
  have hy0:(0:Int)≤(b[i].toNat:Int):=by omega
  have hy1:(b[i].toNat:Int)≤255:=by have:=b[i].toNat_lt;omega
  clear hdw hHO hge
  generalize b[i]=y at*
  by_cases h1:1 < y.toNat
  ·have HO:Hid (O=none):=Lib.hid (HO0.out.trans (if_pos h1))
   have h1':(1:Int) < (y.toNat:Int):=by omega
   clear t0 t1 t2 t3 t4 t5 t6 t7 s0
   have Kq:=HK.out.2.2
   obtain ⟨⟨q0,q1,q2⟩,g0,g1,g2⟩:=Kq.c3
   obtain ⟨⟨z0,z1,z2⟩, -⟩:=(Kq.put3 (.int .i64 0) (.slice none 0 0) (.slice none 0 0)).c3
   have HF:=Lib.hid (below_put3 (HB0.out) (show w.heap.size≤w.heap.size+2 by omega) (.int .i64 0) (.slice none 0 0) (.slice none 0 0))
   clear Kq
   go_wp2
   exact bodyPost_ret (v:= .tuple #[.agg #[.int .i64 0, .slice none 0 0, .slice none 0 0], .int .i64 i, .int .i64 4]) (by simp [results,Tryd.results119,go_sem,z0,z1,z2]) rfl ⟨0,none,0,0,none,0,0,i,4,rfl,by rw [HO.out];show (4:Int)≠0;decide,HF.out⟩
  ·have HO:=Lib.hid (HO0.out.trans (if_neg h1))
   have h1':¬(1:Int) < (y.toNat:Int):=by omega
   have HQ:=Lib.hid (HQI.out y.toNat (by omega))
   have HI:=Lib.hid (HIS.out 0 y.toNat (i+1) (by omega) hil HQ.out)
   have bq:=(Below.refl W0.heap.size W0).drew
   have bw:=HB0.out.drew
   clear HO0 HIS HQI
   go_wp2_with fail
   refine wp_region_held_drew (S:=(fun w9=> w9.cell? ⟨w.heap.size,0,none⟩=some (.slice A L.length c)∧w9.cell? ⟨w.heap.size+1,0,none⟩=some (.string L[k].d.name)∧w9.cell? ⟨w.heap.size+1,1,none⟩=some (.int .i64 L[k].d.kind)∧w9.cell? ⟨w.heap.size+1,2,none⟩=some (.int .i64 L[k].d.size)∧w9.cell? ⟨w.heap.size+1,3,none⟩=some (.bool L[k].d.little)∧w9.cell? ⟨w.heap.size+1,4,none⟩=some (.slice A1 L[k].d.bytes.length c1)∧w9.cell? ⟨w.heap.size+1,5,none⟩=some (.slice A2 L[k].d.names.length c2)∧w9.cell? ⟨w.heap.size+1,6,none⟩=some (.slice A3 L[k].d.tags.length c3)∧w9.cell? ⟨w.heap.size+1,7,none⟩=some (.slice A4 L[k].d.kids.length c4)∧w9.cell? ⟨bb,oo+i,none⟩=some (.int .u8 (y.toNat:Int)))) (by kernel_rfl) ?_ (fun hHeld=> ?_)
   ·(try dsimp only);exact ⟨s0,t0,t1,t2,t3,t4,t5,t6,t7,hd⟩
   refine rgTake 0 (some 26) hHeld _ ?_;try go_frame
   refine rgTake 1 (some 27) hHeld _ ?_;try go_frame
   refine rgTake 2 (some 28) hHeld _ ?_;try go_frame
   refine rgTake 3 (some 29) hHeld _ ?_;try go_frame
   refine rgTake 4 (some 30) hHeld _ ?_;try go_frame
   refine rgTake 5 (some 31) hHeld _ ?_;try go_frame
   refine rgTake 6 (some 32) hHeld _ ?_;try go_frame
   refine rgTake 7 (some 33) hHeld _ ?_;try go_frame
   refine rgTake 8 (some 34) hHeld _ ?_;try go_frame
   refine rgTake 9 (some 35) hHeld _ ?_;try go_frame
   refine rgStep 10 (fun K hK=> ?_)
   go_simp
   rw [show IntKind.i64.wrap (y.toNat:Int)=(y.toNat:Int) from IntWalk.i64_in _ (by omega)];rw [show IntKind.i64.wrap ((i:Int)+1)=((i+1:Nat):Int) by rw [IntWalk.i64_in _ (by omega)];omega];refine (HI.out _ bw).mono ?_;rintro e5 w5 ⟨n',B1,m1',d1,B2,m2',d2,next,code,rfl,hrk,bel⟩;have HRK:=Lib.hid hrk;clear hrk;have bq:=below_step bel bq;have bw:=below_step bel bw;have Kq:=HK.out.2.2.below bq;obtain ⟨⟨q0,q1,q2⟩,g0,g1,g2⟩:=Kq.c3
   (try go_wp2_with fail)
   refine hK.out _ _ ?_ (fun hHeld=> ?_)
   ·(try dsimp only);first|exact ⟨cell_later bq s0,cell_later bq t0,cell_later bq t1,cell_later bq t2,cell_later bq t3,cell_later bq t4,cell_later bq t5,cell_later bq t6,cell_later bq t7,cell_later bq hd⟩|exact ⟨es0,et0,et1,et2,et3,et4,et5,et6,et7,ehd⟩
   clear hK K
   try go_frame
   refine rgTake 11 (some 37) hHeld _ ?_;try go_frame
   refine rgTake 12 (some 38) hHeld _ ?_;try go_frame
   refine rgTake 13 (some 39) hHeld _ ?_;try go_frame
   refine rgStep 14 (fun K hK=> ?_)
   (try go_simp)
   go_simp;have es0:=((HK.out.1.below bq).other3 (q:=w.heap.size+2) (by omega) (.int .i64 n') (.slice B1 m1' d1) (.slice B2 m2' d2)).cell 0 rfl;obtain ⟨⟨et0,et1,et2,et3,et4,et5,et6,et7⟩, -⟩:=((HK.out.2.1.below bq).other3 (q:=w.heap.size+2) (by omega) (.int .i64 n') (.slice B1 m1' d1) (.slice B2 m2' d2)).c8;have bw:=below_put3 bw (show w.heap.size≤w.heap.size+2 by omega) (.int .i64 n') (.slice B1 m1' d1) (.slice B2 m2' d2);have ehd:=cell_keep HDW.out bw hbbw;have Kz:=Kq.put3 (.int .i64 n') (.slice B1 m1' d1) (.slice B2 m2' d2)
   refine hK.out _ _ ?_ (fun hHeld=> ?_)
   ·(try dsimp only);first|exact ⟨cell_later bq s0,cell_later bq t0,cell_later bq t1,cell_later bq t2,cell_later bq t3,cell_later bq t4,cell_later bq t5,cell_later bq t6,cell_later bq t7,cell_later bq hd⟩|exact ⟨es0,et0,et1,et2,et3,et4,et5,et6,et7,ehd⟩
   clear hK K
   try go_frame
   refine rgTake 15 (some 9) hHeld _ ?_;try go_frame
   refine rgTake 16 (some 10) hHeld _ ?_;try go_frame
   refine wpAnyH_done (by kernel_rfl) ?_ _
   obtain ⟨⟨z0,z1,z2⟩, -⟩:=Kz.c3
   have HF:=Lib.hid bw
   clear bw bq Kq es0 et0 et1 et2 et3 et4 et5 et6 et7 ehd s0 t0 t1 t2 t3 t4 t5 t6 t7 hd q0 q1 q2 g0 g1 g2 hHeld Kz
   go_wp2
   exact bodyPost_ret (v:= .tuple #[.agg #[.int .i64 n', .slice B1 m1' d1, .slice B2 m2' d2], .int .i64 next, .int .i64 code]) (by simp [results,Tryd.results119,go_sem,z0,z1,z2]) rfl ⟨n',B1,m1',d1,B2,m2',d2,next,code,rfl,by rw [HO.out];exact HRK.out,HF.out⟩
end Go.Proofs.YteldgdelmaeokaaDoor
namespace Go.Proofs.YteldgdelmaeokaaDoor
open Go.RowKit
set_option maxHeartbeats 8000000 in
set_option maxRecDepth 100000 in
theorem l11Checked_any (L:List RM) (sm:∀r∈L,r.d.small 1048576) (hv:validD (L.map RM.d)=true) (k:Nat) (hk:k < L.length) (ih:∀q,q < k→RdC L q) (f:Nat) (hf:k≤f) (vD vb:Value) (b:List UInt8) (i B:Nat) (w:World)
  (h:SlD w B vD L) (hb:SlB w B vb b) (hB:B≤w.heap.size) (hi:i≤b.length) (hl:b.length≤400) (qk:L[k].d.kind=9):
  Calls Tryd.prog 120 #[.agg #[vD],rmV L[k],vb, .int .i64 i] w (RdR (rdB (L.map RM.d) b (gE (L.map RM.d) b f) L[k].d k i) w):=by
 have hlm:(L.map RM.d).length=L.length:=List.length_map ..
 have hro:=validD_at hv (k:=k) (by rw [hlm];exact hk)
 rw [List.getElem_map] at hro
 have hkind:=ruleOk_kind hro
 have hf0:=(validD_facts hv).2 k (by rw [hlm];exact hk)
 rw [List.getElem_map] at hf0
 have hIS:∀(n:Int) (cnt p:Nat),cnt≤255→p≤b.length→(∀j,j < cnt→∃q:Nat,itemR L[k].d n j=q∧q < k)→∀W,Below w.heap.size w W→Calls Tryd.prog 117 #[.agg #[vD],rmV L[k], .int .i64 n, .int .i64 cnt,vb, .int .i64 p] W (RdR ((itE (gE (L.map RM.d) b f) (itR L[k].d n cnt) p).map fun x=> (0,cnt,x)) W):=fun n cnt p h4 hp hj W hw=>
  l11Items_any L sm hv k hk ih f hf vD vb b n cnt p B W (h.below (hw.mono hB)) (hb.below (hw.mono hB)) (by have:=hw.size;omega) hp hl h4 hj
 have hQI:∀j,j < 1→∃q:Nat,itemR L[k].d 0 j=q∧q < k:=fun j hj=>
  own_item (nb:=0) (ni:=1) hro (by rw [own_9 qk];simp) hj
 have hOB:rdB (L.map RM.d) b (gE (L.map RM.d) b f) L[k].d k i=(match itE (gE (L.map RM.d) b f) (itR L[k].d 0 1) i with|none=> none|some e=> match b[e]? with|none=> none|some c=> if (c.toNat:Int)=sumF (cutB b i (e - i)) then some (0,1,e+1) else none):=by
  unfold rdB
  simp only [qk]
  rfl
 have hGL:∀e,itE (gE (L.map RM.d) b f) (itR L[k].d 0 1) i=some e→i≤e∧e≤b.length:=fun e he=> itE_le (fun q p e=> gE_le q p e) _ _ _ he hi
 have hSM:∀u (l:List UInt8) W,SlB W B u l→B≤W.heap.size→Calls Tryd.prog 83 #[u] W fun e w'=> e= .returned (.int .i64 (sumF l))∧W=w':=fun u l W hu hw=> specSumV_any u l B W hu hw
 obtain ⟨A,c,rfl,hc,hm, -⟩:=h.open_
 obtain ⟨Ab,cb,rfl,hcb,hmb,hbc⟩:=hb.one
 obtain ⟨b0,off,A1,c1,A2,c2,A3,c3,A4,c4, -, -,e1,e2,e3,e4,m1,m2,m3,m4, -⟩:=rule_cells h k hk
 unfold rmV at hIS ⊢
 rw [e1,e2,e3,e4] at hIS ⊢
 have HIS:=Lib.hid hIS
 have HBC:=Lib.hid hbc
 have HQI:=Lib.hid hQI
 have HOB:=Lib.hid hOB
 have HGL:=Lib.hid hGL
 have HSM:=Lib.hid hSM
 have HBB:=Lib.hid hb
 clear hQI hOB hGL hSM
 obtain ⟨O,hO⟩:∃O,O=rdB (L.map RM.d) b (gE (L.map RM.d) b f) L[k].d k i:=⟨_,rfl⟩
 rw [←hO]
 have HOE:=Lib.hid hO
 clear hO hIS hbc h hb ih sm hv hlm hkind hf0 hro e1 e2 e3 e4 qk
 unfold maxLen at hm hmb m4
 obtain ⟨W0,hW0⟩:∃W0,W0=((w.alloc (.cells #[.slice A L.length c] 26)).alloc (.cells #[.string L[k].d.name, .int .i64 L[k].d.kind, .int .i64 L[k].d.size, .bool L[k].d.little, .slice A1 L[k].d.bytes.length c1, .slice A2 L[k].d.names.length c2, .slice A3 L[k].d.tags.length c3, .slice A4 L[k].d.kids.length c4] 73)).alloc (.cells #[.int .i64 0, .slice none 0 0, .slice none 0 0] 29):=⟨_,rfl⟩
 have hb0:Below w.heap.size w W0:=by rw [hW0];exact (((Below.refl w.heap.size w).alloc (Nat.le_refl _) _).alloc (by simp) _).alloc (by simp;omega) _
 have Kd:Blk W0 w.heap.size 26 #[.slice A L.length c]:=by rw [hW0];exact ((Blk.new w _ _).alloc _).alloc _
 have Kr:Blk W0 (w.heap.size+1) 73 #[.string L[k].d.name, .int .i64 L[k].d.kind, .int .i64 L[k].d.size, .bool L[k].d.little, .slice A1 L[k].d.bytes.length c1, .slice A2 L[k].d.names.length c2, .slice A3 L[k].d.tags.length c3, .slice A4 L[k].d.kids.length c4]:=by
  rw [hW0]
  refine Blk.alloc ?_ _
  have:=Blk.new (w.alloc (.cells #[.slice A L.length c] 26)) 73 #[.string L[k].d.name, .int .i64 L[k].d.kind, .int .i64 L[k].d.size, .bool L[k].d.little, .slice A1 L[k].d.bytes.length c1, .slice A2 L[k].d.names.length c2, .slice A3 L[k].d.tags.length c3, .slice A4 L[k].d.kids.length c4]
  simpa using this
 have Kv:Blk W0 (w.heap.size+2) 29 #[.int .i64 0, .slice none 0 0, .slice none 0 0]:=by
  rw [hW0]
  have:=Blk.new ((w.alloc (.cells #[.slice A L.length c] 26)).alloc (.cells #[.string L[k].d.name, .int .i64 L[k].d.kind, .int .i64 L[k].d.size, .bool L[k].d.little, .slice A1 L[k].d.bytes.length c1, .slice A2 L[k].d.names.length c2, .slice A3 L[k].d.tags.length c3, .slice A4 L[k].d.kids.length c4] 73)) 29 #[.int .i64 0, .slice none 0 0, .slice none 0 0]
  simpa using this
 have hz0:w.heap.size+2 < W0.heap.size:=Kv.lt
 have HB0:=Lib.hid hb0
 have HK:=Lib.hid (And.intro Kd (And.intro Kr Kv))
 have s0:W0.cell? ⟨w.heap.size,0,none⟩=some (.slice A L.length c):=Kd.cell 0 rfl
 obtain ⟨⟨t0,t1,t2,t3,t4,t5,t6,t7⟩, -⟩:=Kr.c8
 clear Kd Kr Kv hb0
 go_enter Tryd.func120,Tryd.ntmps120
 go_upto_region 1 with fail
 rw [←hW0]
 clear hW0
 have HO0:=Lib.hid (HOE.out.trans HOB.out)
 clear HOE HOB
 go_wp2_with fail
 refine (HIS.out 0 1 i (by omega) hi HQI.out _ HB0.out).mono ?_
 rintro e5 w5 ⟨n',B1,m1',d1,B2,m2',d2,next,code,rfl,hrk,bel⟩
 have bq:=bel
 have bw:=below_step bel HB0.out
 have HRK:=Lib.hid hrk
 clear s0 t0 t1 t2 t3 t4 t5 t6 t7 bel hrk
 obtain ⟨W6,hW6⟩:∃W6,W6=w5.alloc (.cells #[.int .i64 n', .slice B1 m1' d1, .slice B2 m2' d2] 29):=⟨_,rfl⟩
 have h56:Below w5.heap.size w5 W6:=by rw [hW6];exact (Below.refl _ _).alloc (Nat.le_refl _) _
 have K6:Blk W6 w5.heap.size 29 #[.int .i64 n', .slice B1 m1' d1, .slice B2 m2' d2]:=by rw [hW6];exact Blk.new w5 _ _
 have HQQ:=Lib.hid (And.intro (below_step h56 bq) (below_step h56 bw))
 obtain ⟨⟨y0,y1,y2⟩, -⟩:=K6.c3
 go_upto_region 2 with fail
 rw [←hW6]
 clear hW6 bq bw h56
 cases hG:itE (gE (L.map RM.d) b f) (itR L[k].d 0 1) i with
 |none=>
  have HO:Hid (O=none):=Lib.hid (by rw [HO0.out,hG])
  have hcode:code≠0:=by have:=HRK.out;rw [hG] at this;exact this
  have hce:(code==0)=false:=by simp [hcode]
  have HCD:=Lib.hid hcode
  clear hG hcode K6
  have Kq:=HK.out.2.2.below HQQ.out.1
  obtain ⟨⟨q0,q1,q2⟩,g0,g1,g2⟩:=Kq.c3
  obtain ⟨⟨z0,z1,z2⟩, -⟩:=(Kq.put3 (.int .i64 n') (.slice B1 m1' d1) (.slice B2 m2' d2)).c3
  have HF:=Lib.hid (below_put3 (HQQ.out.2) (show w.heap.size≤w.heap.size+2 by omega) (.int .i64 n') (.slice B1 m1' d1) (.slice B2 m2' d2))
  clear Kq
  go_wp2
  exact bodyPost_ret (v:= .tuple #[.agg #[.int .i64 n', .slice B1 m1' d1, .slice B2 m2' d2], .int .i64 next, .int .i64 code]) (by simp [results,Tryd.results120,go_sem,z0,z1,z2]) rfl ⟨n',B1,m1',d1,B2,m2',d2,next,code,rfl,by rw [HO.out];exact HCD.out,HF.out⟩
 |some e=>
  have hel:=HGL.out e hG
  have hrk:=HRK.out
  rw [hG] at hrk
  obtain ⟨r1,r2,r3,r4⟩:=hrk
  have r2:m2'=1:=r2
  have r1:n'=0:=r1
  subst r1 r2 r3 r4
  have HO1:=Lib.hid (by have:=HO0.out;rw [hG] at this;exact this:O=(match b[e]? with|none=> none|some c=> if (c.toNat:Int)=sumF (cutB b i (e - i)) then some (0,1,e+1) else none))
  clear hG HRK HGL HO0
  by_cases hge:e=b.length
  ·have HO:Hid (O=none):=Lib.hid (by rw [HO1.out,hge,List.getElem?_eq_none (Nat.le_refl _)])
   have hge':(b.length:Int)≤(e:Int):=by omega
   clear hge
   have Kq:=HK.out.2.2.below HQQ.out.1
   obtain ⟨⟨q0,q1,q2⟩,g0,g1,g2⟩:=Kq.c3
   obtain ⟨⟨z0,z1,z2⟩, -⟩:=(Kq.put3 (.int .i64 0) (.slice none 0 0) (.slice none 0 0)).c3
   have HF:=Lib.hid (below_put3 (HQQ.out.2) (show w.heap.size≤w.heap.size+2 by omega) (.int .i64 0) (.slice none 0 0) (.slice none 0 0))
   clear Kq
   go_wp2
   exact bodyPost_ret (v:= .tuple #[.agg #[.int .i64 0, .slice none 0 0, .slice none 0 0], .int .i64 e, .int .i64 1]) (by simp [results,Tryd.results120,go_sem,z0,z1,z2]) rfl ⟨0,none,0,0,none,0,0,e,1,rfl,by rw [HO.out];show (1:Int)≠0;decide,HF.out⟩
  ·have hlt:e < b.length:=by omega
   obtain ⟨bb,oo,rfl,hbb,hdw⟩:=HBC.out e hlt
   have hd:=cell_keep hdw (HQQ.out.2.mono hB) hbb
   unfold u8v at hd
   have hbbw:bb < w.heap.size:=by omega
   have hge':¬(b.length:Int)≤(e:Int):=by omega
   have hlt':(e:Int) < (b.length:Int):=by omega
   have hcv:=run_cutLH (P:=Tryd.prog) Tryd.underlying22 Tryd.sizeOf5 (some ⟨bb,oo,none⟩) b.length cb i e i e rfl rfl (by omega) (by omega)
   have hsl:=SlB.cut HBB.out i e cb (by omega) (by omega) (by omega) (by unfold maxLen;omega)
   have hsc:(cutB b i (e - i)).length=e - i:=cutB_length (by omega)
   have hsl2:SlB w B (.slice (cutA (some ⟨bb,oo,none⟩) cb i 1) (e - i) (cb - i)) (cutB b i (e - i)):=by
    unfold SlB
    rw [hsc]
    exact hsl
   have HSL:=Lib.hid (fun W hw=> hsl2.below hw:∀W,Below B w W→_)
   have HSB:=Lib.hid (sumF_bd (cutB b i (e - i)))
   rw [List.getElem?_eq_getElem hlt] at HO1
   have hy0:(0:Int)≤(b[e].toNat:Int):=by omega
   have hy1:(b[e].toNat:Int)≤255:=by have:=b[e].toNat_lt;omega
   have bw:=HQQ.out.2.drew
   clear hdw hge hsl hsl2 hsc
   generalize b[e]=z at*
   generalize hsm:sumF (cutB b i (e - i))=s at*
   by_cases hs:(z.toNat:Int)=s
   ·have HO:Hid (O=some (0,1,e+1)):=Lib.hid (HO1.out.trans (if_pos hs))
    have hbe:((z.toNat:Int) !=s)=false:=by simp [hs]
    have HS:=Lib.hid hsm
    have HHS:=Lib.hid hs
    clear hs hsm
    go_wp2_with fail
    refine wp_region_held_drew (S:=(fun w9=> w9.cell? ⟨bb,oo+e,none⟩=some (.int .u8 (z.toNat:Int)))) (by kernel_rfl) ?_ (fun hHeld=> ?_)
    ·(try dsimp only);exact hd
    refine rgTake 0 (some 37) hHeld _ ?_;try go_frame
    refine rgTake 1 (some 38) hHeld _ ?_;try go_frame
    refine rgTake 2 (some 39) hHeld _ ?_;try go_frame
    refine rgTake 3 (some 40) hHeld _ ?_;try go_frame
    refine rgTake 4 (some 41) hHeld _ ?_;try go_frame
    refine rgTake 5 (some 42) hHeld _ ?_;try go_frame
    refine rgTake 6 (some 43) hHeld _ ?_;try go_frame
    refine rgTake 7 (some 44) hHeld _ ?_;try go_frame
    refine rgTake 8 (some 45) hHeld _ ?_;try go_frame
    refine rgStep 9 (fun K hK=> ?_)
    go_simp
    refine (HSM.out _ (cutB b i (e - i)) _ (HSL.out _ (bw.mono hB)) (by have:=bw.size;omega)).mono ?_;rintro e7 w7 ⟨rfl,rfl⟩;rw [HS.out]
    (try go_wp2_with fail)
    refine hK.out _ _ ?_ (fun hHeld=> ?_)
    ·(try dsimp only);exact hd
    clear hK K
    try go_frame
    refine rgTake 10 (some 47) hHeld _ ?_;try go_frame
    refine rgTake 11 (some 36) hHeld _ ?_;try go_frame
    refine wpAnyH_done (by kernel_rfl) ?_ _
    clear bw hHeld hd
    rw [show IntKind.i64.wrap (z.toNat:Int)=(z.toNat:Int) from IntWalk.i64_in _ (by omega)]
    have Kq:=HK.out.2.2.below HQQ.out.1
    obtain ⟨⟨q0,q1,q2⟩,g0,g1,g2⟩:=Kq.c3
    obtain ⟨⟨z0,z1,z2⟩, -⟩:=(Kq.put3 (.int .i64 0) (.slice B1 m1' d1) (.slice B2 1 d2)).c3
    have HF:=Lib.hid (below_put3 (HQQ.out.2) (show w.heap.size≤w.heap.size+2 by omega) (.int .i64 0) (.slice B1 m1' d1) (.slice B2 1 d2))
    clear Kq
    go_wp2
    exact bodyPost_ret (v:= .tuple #[.agg #[.int .i64 0, .slice B1 m1' d1, .slice B2 1 d2], .int .i64 ((e:Int)+1), .int .i64 0]) (by simp [results,Tryd.results120,go_sem,z0,z1,z2]) rfl ⟨0,B1,m1',d1,B2,1,d2,((e:Int)+1),0,rfl,by rw [HO.out];exact ⟨rfl,rfl,by push_cast;rfl,rfl⟩,HF.out.drew⟩
   ·have HO:Hid (O=none):=Lib.hid (HO1.out.trans (if_neg hs))
    have hbe:((z.toNat:Int) !=s)=true:=by simp [hs]
    have HS:=Lib.hid hsm
    clear hs hsm
    go_wp2_with fail
    refine wp_region_held_drew (S:=(fun w9=> w9.cell? ⟨bb,oo+e,none⟩=some (.int .u8 (z.toNat:Int)))) (by kernel_rfl) ?_ (fun hHeld=> ?_)
    ·(try dsimp only);exact hd
    refine rgTake 0 (some 37) hHeld _ ?_;try go_frame
    refine rgTake 1 (some 38) hHeld _ ?_;try go_frame
    refine rgTake 2 (some 39) hHeld _ ?_;try go_frame
    refine rgTake 3 (some 40) hHeld _ ?_;try go_frame
    refine rgTake 4 (some 41) hHeld _ ?_;try go_frame
    refine rgTake 5 (some 42) hHeld _ ?_;try go_frame
    refine rgTake 6 (some 43) hHeld _ ?_;try go_frame
    refine rgTake 7 (some 44) hHeld _ ?_;try go_frame
    refine rgTake 8 (some 45) hHeld _ ?_;try go_frame
    refine rgStep 9 (fun K hK=> ?_)
    go_simp
    refine (HSM.out _ (cutB b i (e - i)) _ (HSL.out _ (bw.mono hB)) (by have:=bw.size;omega)).mono ?_;rintro e7 w7 ⟨rfl,rfl⟩;rw [HS.out]
    (try go_wp2_with fail)
    refine hK.out _ _ ?_ (fun hHeld=> ?_)
    ·(try dsimp only);exact hd
    clear hK K
    try go_frame
    refine rgTake 10 (some 47) hHeld _ ?_;try go_frame
    refine rgTake 11 (some 36) hHeld _ ?_;try go_frame
    refine wpAnyH_done (by kernel_rfl) ?_ _
    clear bw hHeld hd
    rw [show IntKind.i64.wrap (z.toNat:Int)=(z.toNat:Int) from IntWalk.i64_in _ (by omega)]
    have Kq:=HK.out.2.2.below HQQ.out.1
    obtain ⟨⟨q0,q1,q2⟩,g0,g1,g2⟩:=Kq.c3
    obtain ⟨⟨z0,z1,z2⟩, -⟩:=(Kq.put3 (.int .i64 0) (.slice none 0 0) (.slice none 0 0)).c3
    have HF:=Lib.hid (below_put3 (HQQ.out.2) (show w.heap.size≤w.heap.size+2 by omega) (.int .i64 0) (.slice none 0 0) (.slice none 0 0))
    clear Kq
    go_wp2
    exact bodyPost_ret (v:= .tuple #[.agg #[.int .i64 0, .slice none 0 0, .slice none 0 0], .int .i64 e, .int .i64 5]) (by simp [results,Tryd.results120,go_sem,z0,z1,z2]) rfl ⟨0,none,0,0,none,0,0,e,5,rfl,by rw [HO.out];show (5:Int)≠0;decide,HF.out.drew⟩
end Go.Proofs.YteldgdelmaeokaaDoor
