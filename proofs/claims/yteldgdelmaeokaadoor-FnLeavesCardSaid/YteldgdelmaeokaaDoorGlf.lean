/- Out of RdM, RdN: the walks and plain laws that the claim needs. No condition but those that each theorem names. -/
import Derived.Test.YteldgdelmaeokaaDoorGle
set_option linter.unusedSimpArgs false
set_option linter.unusedVariables false
namespace Go.Proofs.YteldgdelmaeokaaDoor
open Go.RowKit
theorem rdI_n4 {D:List RuleD} {b:List UInt8} {q i:Nat} {n:Int} {e:Nat} (h:rdI D b q i=some (n,e)) (hq:q < D.length) (hs:0≤D[q].size∧D[q].size≤4):n≤4294967295:=by
 unfold rdI at h
 rw [ruleAt_at hq] at h
 simp only at h
 split at h
 ·rename_i hle
  simp only [Option.some.injEq,Prod.mk.injEq] at h
  obtain ⟨rfl, -⟩:=h
  exact (numB_bd _ (by rw [cutB_length (by omega)];omega)).2
 ·cases h
set_option maxHeartbeats 16000000 in
set_option maxRecDepth 100000 in
theorem l11Read_any (L:List RM) (sm:∀r∈L,r.d.small 1048576) (hv:validD (L.map RM.d)=true) (k:Nat):k < L.length→RdC L k:=by
 induction k using Nat.strongRecOn with
 |ind k ih=>
 intro hk f1 hf1 vD vb b i B w h hb hB hi hl
 have HIH:=Lib.hid (fun q hq=> ih q hq (by omega):∀q,q < k→RdC L q)
 obtain ⟨f,rfl⟩:∃f,f1=f+1:=⟨f1 - 1,by omega⟩
 have hf:k≤f:=by omega
 have hlm:(L.map RM.d).length=L.length:=List.length_map ..
 have hro:=validD_at hv (k:=k) (by rw [hlm];exact hk)
 rw [List.getElem_map] at hro
 have hkind:=ruleOk_kind hro
 have hf0:=(validD_facts hv).2 k (by rw [hlm];exact hk)
 rw [List.getElem_map] at hf0
 have HF0:=Lib.hid hf0
 have HRO:=Lib.hid hro
 have HV:=Lib.hid hv
 obtain ⟨O,hO⟩:∃O,O=rdE (L.map RM.d) b (f+1) k i:=⟨_,rfl⟩
 rw [←hO]
 have hO2:O=rdB (L.map RM.d) b (gE (L.map RM.d) b f) L[k].d k i:=by
  rw [hO,rdE_at (r:=L[k].d) (by rw [ruleAt_at (by rw [hlm];exact hk),List.getElem_map])]
  rfl
 have HOE:=Lib.hid hO2
 obtain ⟨A,c,rfl,hc,hm, -⟩:=h.open_
 obtain ⟨Ab,cb,rfl,hcb,hmb, -⟩:=hb.one
 have hrc:=rule_cells h k hk
 obtain ⟨b0,off,A1,c1,A2,c2,A3,c3,A4,c4,rfl,hbB,e1,e2,e3,e4,m1,m2,m3,m4,hcell⟩:=hrc
 have HH:=Lib.hid h
 have HBB:=Lib.hid hb
 unfold maxLen at hm hmb m1 m4
 clear hO hO2 h hb ih hf0 hro
 obtain ⟨W0,hW0⟩:∃W0,W0=(w.alloc (.cells #[.slice (some ⟨b0,off,none⟩) L.length c] 26)).alloc (.cells #[.int .i64 0, .slice none 0 0, .slice none 0 0] 29):=⟨_,rfl⟩
 have hb0:Below w.heap.size w W0:=by rw [hW0];exact ((Below.refl w.heap.size w).alloc (Nat.le_refl _) _).alloc (by simp) _
 have Kd:Blk W0 w.heap.size 26 #[.slice (some ⟨b0,off,none⟩) L.length c]:=by rw [hW0];exact (Blk.new w _ _).alloc _
 have Kv:Blk W0 (w.heap.size+1) 29 #[.int .i64 0, .slice none 0 0, .slice none 0 0]:=by
  rw [hW0]
  have:=Blk.new (w.alloc (.cells #[.slice (some ⟨b0,off,none⟩) L.length c] 26)) 29 #[.int .i64 0, .slice none 0 0, .slice none 0 0]
  simpa using this
 have s0:W0.cell? ⟨w.heap.size,0,none⟩=some (.slice (some ⟨b0,off,none⟩) L.length c):=Kd.cell 0 rfl
 obtain ⟨x0,x1,x2,x3,x4,x5,x6,x7⟩:=hcell W0 (below_cells hb0 hB)
 have hbx:b0 < w.heap.size:=by omega
 have HE:=Lib.hid (And.intro e1 (And.intro e2 (And.intro e3 e4)))
 clear hcell e1 e2 e3 e4
 go_enter Tryd.func104,Tryd.ntmps104
 go_upto_region 1 with fail
 rw [←hW0]
 clear hW0
 obtain ⟨W1,hW1⟩:∃W1,W1=W0.alloc (.cells #[.string L[k].d.name, .int .i64 L[k].d.kind, .int .i64 L[k].d.size, .bool L[k].d.little, .slice A1 L[k].d.bytes.length c1, .slice A2 L[k].d.names.length c2, .slice A3 L[k].d.tags.length c3, .slice A4 L[k].d.kids.length c4] 73):=⟨_,rfl⟩
 have h01:Below W0.heap.size W0 W1:=by rw [hW1];exact (Below.refl _ _).alloc (Nat.le_refl _) _
 have Kr:Blk W1 W0.heap.size 73 #[.string L[k].d.name, .int .i64 L[k].d.kind, .int .i64 L[k].d.size, .bool L[k].d.little, .slice A1 L[k].d.bytes.length c1, .slice A2 L[k].d.names.length c2, .slice A3 L[k].d.tags.length c3, .slice A4 L[k].d.kids.length c4]:=by rw [hW1];exact Blk.new W0 _ _
 have hz0:w.heap.size+1 < W0.heap.size:=Kv.lt
 have H1:=Lib.hid (below_step h01 hb0)
 have KD:=Lib.hid (Kd.below h01)
 have KV:=Lib.hid (Kv.below h01)
 have KR:=Lib.hid Kr
 have hz1:W0.heap.size < W1.heap.size:=Kr.lt
 clear Kd Kv h01 hb0
 go_upto_region 2 with fail
 rw [←hW1]
 clear hW1 s0 x0 x1 x2 x3 x4 x5 x6 x7
 have s0:W1.cell? ⟨w.heap.size,0,none⟩=some (.slice (some ⟨b0,off,none⟩) L.length c):=KD.out.cell 0 rfl
 obtain ⟨⟨t0,t1,t2,t3,t4,t5,t6,t7⟩, -⟩:=Kr.c8
 have BQ:=Lib.hid (Below.refl W1.heap.size W1)
 clear Kr
 rcases kind_cases hkind with q|q|q|q|q|q|q|q|q|q
 ·have HQK:=Lib.hid q
  have h1:=HF0.out.c1 q
  have hOB:=HOE.out.trans (by unfold rdB;simp only [q];rfl:rdB (L.map RM.d) b (gE (L.map RM.d) b f) L[k].d k i=(rdI (L.map RM.d) b k i).map fun x=> (x.1,0,x.2))
  have hIN:∀W,Below w.heap.size w W→Calls Tryd.prog 105 #[.agg #[.slice (some ⟨b0,off,none⟩) L.length c], .int .i64 k, .slice Ab b.length cb, .int .i64 i] W fun e w'=> e= .returned (riT (rdI (L.map RM.d) b k i) i)∧Below W.heap.size W w':=fun W hw=>
   l11Int_any _ _ L b k i B W (HH.out.below (hw.mono hB)) (HBB.out.below (hw.mono hB)) (by have:=hw.size;omega) hk h1 hi hl
  rw [q] at t1
  clear HOE h1 q
  cases hR:rdI (L.map RM.d) b k i with
  |none=>
   rw [hR] at hIN hOB
   unfold riT at hIN
   have HIN:=Lib.hid hIN
   have HO:Hid (O=none):=Lib.hid hOB
   clear hIN hOB hR
   go_wp2_with fail
   refine (HIN.out _ H1.out).mono ?_
   rintro e5 w5 ⟨rfl,bel⟩
   have HQ5:=Lib.hid (And.intro bel (below_step bel H1.out))
   clear s0 t0 t1 t2 t3 t4 t5 t6 t7 bel
   have Kq:=KV.out.below HQ5.out.1
   obtain ⟨⟨q0,q1,q2⟩,g0,g1,g2⟩:=Kq.c3
   obtain ⟨⟨z0,z1,z2⟩, -⟩:=(Kq.put3 (.int .i64 0) (.slice none 0 0) (.slice none 0 0)).c3
   have HF:=Lib.hid (below_put3 (HQ5.out.2) (show w.heap.size≤w.heap.size+1 by omega) (.int .i64 0) (.slice none 0 0) (.slice none 0 0))
   clear Kq
   go_wp2
   exact bodyPost_ret (v:= .tuple #[.agg #[.int .i64 0, .slice none 0 0, .slice none 0 0], .int .i64 i, .int .i64 1]) (by simp [results,Tryd.results104,go_sem,z0,z1,z2]) rfl ⟨0,none,0,0,none,0,0,i,1,rfl,by rw [HO.out];show (1:Int)≠0;decide,HF.out⟩
  |some y=>
   obtain ⟨n,e⟩:=y
   rw [hR] at hIN hOB
   unfold riT at hIN
   have HIN:=Lib.hid hIN
   have HO:Hid (O=some (n,0,e)):=Lib.hid hOB
   clear hIN hOB hR
   go_wp2_with fail
   refine (HIN.out _ H1.out).mono ?_
   rintro e5 w5 ⟨rfl,bel⟩
   have HQ5:=Lib.hid (And.intro bel (below_step bel H1.out))
   clear s0 t0 t1 t2 t3 t4 t5 t6 t7 bel
   have Kq:=KV.out.below HQ5.out.1
   obtain ⟨⟨q0,q1,q2⟩,g0,g1,g2⟩:=Kq.c3
   obtain ⟨⟨z0,z1,z2⟩, -⟩:=(Kq.put3 (.int .i64 n) (.slice none 0 0) (.slice none 0 0)).c3
   have HF:=Lib.hid (below_put3 (HQ5.out.2) (show w.heap.size≤w.heap.size+1 by omega) (.int .i64 n) (.slice none 0 0) (.slice none 0 0))
   clear Kq
   go_wp2
   exact bodyPost_ret (v:= .tuple #[.agg #[.int .i64 n, .slice none 0 0, .slice none 0 0], .int .i64 e, .int .i64 0]) (by simp [results,Tryd.results104,go_sem,z0,z1,z2]) rfl ⟨n,none,0,0,none,0,0,e,0,rfl,by rw [HO.out];exact ⟨rfl,rfl,rfl,rfl⟩,HF.out⟩
 ·have HQK:=Lib.hid q
  obtain ⟨e1,e2,e3,e4⟩:=HE.out
  have HO:=Lib.hid (HOE.out.trans (by unfold rdB;simp only [q];rfl:rdB (L.map RM.d) b (gE (L.map RM.d) b f) L[k].d k i=if cutB b i L[k].d.bytes.length=L[k].d.bytes then some (0,0,i+L[k].d.bytes.length) else none))
  have hCO:∀W,Below w.heap.size w W→Calls Tryd.prog 114 #[rmV L[k], .slice Ab b.length cb, .int .i64 i] W (RdR (if cutB b i L[k].d.bytes.length=L[k].d.bytes then some (0,0,i+L[k].d.bytes.length) else none) W):=fun W hw=> l11Const_any L[k] _ b i B W ((HH.out.2 _ (List.getElem_mem hk)).below (hw.mono hB)) (HBB.out.below (hw.mono hB)) (by have:=hw.size;omega) (HF0.out.c2 q).2 hi hl
  unfold rmV at hCO
  rw [e1,e2,e3,e4] at hCO
  have HCO:=Lib.hid hCO
  clear hCO
  clear HOE e1 e2 e3 e4
  have hqk:=q
  rw [q] at t1
  clear q
  go_wp2_with fail
  (try rw [←HQK.out])
  refine (HCO.out _ H1.out).mono ?_
  rintro e5 w5 ⟨n',B1,m1',d1,B2,m2',d2,next,code,rfl,hrk,bel⟩
  have bq5:=below_step bel BQ.out
  have HRK:=Lib.hid hrk
  have HQ5:=Lib.hid (And.intro bq5 (below_step bq5 H1.out))
  clear s0 t0 t1 t2 t3 t4 t5 t6 t7 bel hqk bq5 hrk
  have Kq:=KV.out.below HQ5.out.1
  obtain ⟨⟨q0,q1,q2⟩,g0,g1,g2⟩:=Kq.c3
  obtain ⟨⟨z0,z1,z2⟩, -⟩:=(Kq.put3 (.int .i64 n') (.slice B1 m1' d1) (.slice B2 m2' d2)).c3
  have HF:=Lib.hid (below_put3 (HQ5.out.2) (show w.heap.size≤w.heap.size+1 by omega) (.int .i64 n') (.slice B1 m1' d1) (.slice B2 m2' d2))
  clear Kq
  go_wp2
  exact bodyPost_ret (v:= .tuple #[.agg #[.int .i64 n', .slice B1 m1' d1, .slice B2 m2' d2], .int .i64 next, .int .i64 code]) (by simp [results,Tryd.results104,go_sem,z0,z1,z2]) rfl ⟨n',B1,m1',d1,B2,m2',d2,next,code,rfl,by rw [HO.out];exact HRK.out,HF.out⟩
 ·have HQK:=Lib.hid q
  obtain ⟨e1,e2,e3,e4⟩:=HE.out
  have HO:=Lib.hid (HOE.out.trans (by unfold rdB;simp only [q];rfl:rdB (L.map RM.d) b (gE (L.map RM.d) b f) L[k].d k i=if (i:Int)+L[k].d.size≤b.length then some (0,0,i+L[k].d.size.toNat) else none))
  have hBY:∀W,Below w.heap.size w W→Calls Tryd.prog 115 #[.slice Ab b.length cb, .int .i64 i, .int .i64 L[k].d.size] W (RdR (if (i:Int)+L[k].d.size≤b.length then some (0,0,i+L[k].d.size.toNat) else none) W):=fun W hw=> l11Bytes_any _ b i B _ W (HBB.out.below (hw.mono hB)) (by have:=hw.size;omega) (by have:=HF0.out.size;omega) hi hl
  have HBY:=Lib.hid hBY
  clear hBY
  clear HOE e1 e2 e3 e4
  have hqk:=q
  rw [q] at t1
  clear q
  go_wp2_with fail
  (try rw [←HQK.out])
  refine (HBY.out _ H1.out).mono ?_
  rintro e5 w5 ⟨n',B1,m1',d1,B2,m2',d2,next,code,rfl,hrk,bel⟩
  have bq5:=below_step bel BQ.out
  have HRK:=Lib.hid hrk
  have HQ5:=Lib.hid (And.intro bq5 (below_step bq5 H1.out))
  clear s0 t0 t1 t2 t3 t4 t5 t6 t7 bel hqk bq5 hrk
  have Kq:=KV.out.below HQ5.out.1
  obtain ⟨⟨q0,q1,q2⟩,g0,g1,g2⟩:=Kq.c3
  obtain ⟨⟨z0,z1,z2⟩, -⟩:=(Kq.put3 (.int .i64 n') (.slice B1 m1' d1) (.slice B2 m2' d2)).c3
  have HF:=Lib.hid (below_put3 (HQ5.out.2) (show w.heap.size≤w.heap.size+1 by omega) (.int .i64 n') (.slice B1 m1' d1) (.slice B2 m2' d2))
  clear Kq
  go_wp2
  exact bodyPost_ret (v:= .tuple #[.agg #[.int .i64 n', .slice B1 m1' d1, .slice B2 m2' d2], .int .i64 next, .int .i64 code]) (by simp [results,Tryd.results104,go_sem,z0,z1,z2]) rfl ⟨n',B1,m1',d1,B2,m2',d2,next,code,rfl,by rw [HO.out];exact HRK.out,HF.out⟩
 ·have HQK:=Lib.hid q
  obtain ⟨e1,e2,e3,e4⟩:=HE.out
  have h0:=HF0.out.c4 q
  obtain ⟨q0,hq0,hqk,ek0, -,hs1,hs4, -⟩:=fldL HV.out hk (by omega) (by omega)
  obtain ⟨bk,ok,rfl,hbk,hkc⟩:=fld_cells HH.out hk (by omega) e4
  have hk0:=cell_keep hkc (H1.out.mono hB) hbk
  rw [ek0] at hk0
  have hkl:0 < L[k].d.kids.length:=by omega
  have hbkw:bk < w.heap.size:=by omega
  have hIN:∀W,Below w.heap.size w W→Calls Tryd.prog 105 #[.agg #[.slice (some ⟨b0,off,none⟩) L.length c], .int .i64 q0, .slice Ab b.length cb, .int .i64 i] W fun e w'=> e= .returned (riT (rdI (L.map RM.d) b q0 i) i)∧Below W.heap.size W w':=fun W hw=>
   l11Int_any _ _ L b q0 i B W (HH.out.below (hw.mono hB)) (HBB.out.below (hw.mono hB)) (by have:=hw.size;omega) hq0 ⟨hs1,hs4⟩ hi hl
  have hRB:∀n e,rdI (L.map RM.d) b q0 i=some (n,e)→i≤e∧e≤b.length∧0≤n∧n≤4294967295:=fun n e h=> by
   have h1:=rdI_bd h hi
   have h2:=rdI_n4 h (by rw [List.length_map];exact hq0) (by rw [List.getElem_map];omega)
   exact ⟨h1.1,h1.2.1,h1.2.2,h2⟩
  have hR0:kid L[k].d 0=(q0:Int):=by rw [kid_at _ _ (by omega),ek0]
  have hOB:=HOE.out.trans (by unfold rdB;rw [hR0];simp only [q];rfl:rdB (L.map RM.d) b (gE (L.map RM.d) b f) L[k].d k i=(match rdI (L.map RM.d) b q0 i with|none=> none|some (n,e)=> if (e:Int)+n≤b.length then some (0,0,e+n.toNat) else none))
  have hBY:∀(n:Int) (p:Nat),0≤n∧n≤4294967295→p≤b.length→∀W,Below w.heap.size w W→Calls Tryd.prog 115 #[.slice Ab b.length cb, .int .i64 p, .int .i64 n] W (RdR (if (p:Int)+n≤b.length then some (0,0,p+n.toNat) else none) W):=fun n p hn hp W hw=> l11Bytes_any _ b p B n W (HBB.out.below (hw.mono hB)) (by have:=hw.size;omega) hn hp hl
  have HBY:=Lib.hid hBY
  clear hBY
  rw [q] at t1
  clear HOE h0 hs1 hs4 hR0 hkc ek0 q
  have bq:=(Below.refl W1.heap.size W1).drew
  cases hR:rdI (L.map RM.d) b q0 i with
  |none=>
   rw [hR] at hIN hOB
   unfold riT at hIN
   have HIN:=Lib.hid hIN
   have HO:Hid (O=none):=Lib.hid hOB
   clear hIN hOB hR hRB
   go_wp2_with fail
   refine wp_region_held_drew (S:=(fun w9=> w9.cell? ⟨w.heap.size,0,none⟩=some (.slice (some ⟨b0,off,none⟩) L.length c)∧w9.cell? ⟨W0.heap.size,7,none⟩=some (.slice (some ⟨bk,ok,none⟩) L[k].d.kids.length c4)∧w9.cell? ⟨bk,ok,none⟩=some (.int .i64 q0))) (by kernel_rfl) ?_ (fun hHeld=> ?_)
   ·(try dsimp only);exact ⟨s0,t7,hk0⟩
   refine rgTake 0 (some 129) hHeld _ ?_;try go_frame
   refine rgTake 1 (some 130) hHeld _ ?_;try go_frame
   refine rgTake 2 (some 131) hHeld _ ?_;try go_frame
   refine rgTake 3 (some 132) hHeld _ ?_;try go_frame
   refine rgTake 4 (some 133) hHeld _ ?_;try go_frame
   refine rgTake 5 (some 134) hHeld _ ?_;try go_frame
   refine rgTake 6 (some 135) hHeld _ ?_;try go_frame
   refine rgStep 7 (fun K hK=> ?_)
   go_simp
   refine (HIN.out _ (below_step bq H1.out)).mono ?_;rintro e w3 ⟨rfl,bel⟩;have bq:=below_step bel bq
   (try go_wp2_with fail)
   refine hK.out _ _ ?_ (fun hHeld=> ?_)
   ·(try dsimp only);exact ⟨cell_later bq s0,cell_later bq t7,cell_later bq hk0⟩
   clear hK K
   try go_frame
   refine rgTake 8 (some 128) hHeld _ ?_;try go_frame
   refine rgTake 9 (some 137) hHeld _ ?_;try go_frame
   refine rgTake 10 (some 138) hHeld _ ?_;try go_frame
   refine rgTake 11 (some 139) hHeld _ ?_;try go_frame
   refine rgTake 12 (some 18) hHeld _ ?_;try go_frame
   refine rgTake 13 (some 19) hHeld _ ?_;try go_frame
   refine rgTake 14 (some 20) hHeld _ ?_;try go_frame
   refine wpAnyH_done (by kernel_rfl) ?_ _
   have HQ3:=Lib.hid (And.intro bq (below_step bq H1.out))
   clear bq s0 t0 t1 t2 t3 t4 t5 t6 t7 hk0 hHeld
   have Kq:=KV.out.below HQ3.out.1
   obtain ⟨⟨q0,q1,q2⟩,g0,g1,g2⟩:=Kq.c3
   obtain ⟨⟨z0,z1,z2⟩, -⟩:=(Kq.put3 (.int .i64 0) (.slice none 0 0) (.slice none 0 0)).c3
   have HF:=Lib.hid (below_put3 (HQ3.out.2) (show w.heap.size≤w.heap.size+1 by omega) (.int .i64 0) (.slice none 0 0) (.slice none 0 0))
   clear Kq
   go_wp2
   exact bodyPost_ret (v:= .tuple #[.agg #[.int .i64 0, .slice none 0 0, .slice none 0 0], .int .i64 i, .int .i64 1]) (by simp [results,Tryd.results104,go_sem,z0,z1,z2]) rfl ⟨0,none,0,0,none,0,0,i,1,rfl,by rw [HO.out];show (1:Int)≠0;decide,HF.out⟩
  |some y=>
   obtain ⟨n,e⟩:=y
   have hne:=hRB n e hR
   rw [hR] at hIN hOB
   unfold riT at hIN
   have HIN:=Lib.hid hIN
   have HO0:=Lib.hid hOB
   clear hIN hOB hR hRB
   go_wp2_with fail
   refine wp_region_held_drew (S:=(fun w9=> w9.cell? ⟨w.heap.size,0,none⟩=some (.slice (some ⟨b0,off,none⟩) L.length c)∧w9.cell? ⟨W0.heap.size,7,none⟩=some (.slice (some ⟨bk,ok,none⟩) L[k].d.kids.length c4)∧w9.cell? ⟨bk,ok,none⟩=some (.int .i64 q0))) (by kernel_rfl) ?_ (fun hHeld=> ?_)
   ·(try dsimp only);exact ⟨s0,t7,hk0⟩
   refine rgTake 0 (some 129) hHeld _ ?_;try go_frame
   refine rgTake 1 (some 130) hHeld _ ?_;try go_frame
   refine rgTake 2 (some 131) hHeld _ ?_;try go_frame
   refine rgTake 3 (some 132) hHeld _ ?_;try go_frame
   refine rgTake 4 (some 133) hHeld _ ?_;try go_frame
   refine rgTake 5 (some 134) hHeld _ ?_;try go_frame
   refine rgTake 6 (some 135) hHeld _ ?_;try go_frame
   refine rgStep 7 (fun K hK=> ?_)
   go_simp
   refine (HIN.out _ (below_step bq H1.out)).mono ?_;rintro e w3 ⟨rfl,bel⟩;have bq:=below_step bel bq
   (try go_wp2_with fail)
   refine hK.out _ _ ?_ (fun hHeld=> ?_)
   ·(try dsimp only);exact ⟨cell_later bq s0,cell_later bq t7,cell_later bq hk0⟩
   clear hK K
   try go_frame
   refine rgTake 8 (some 128) hHeld _ ?_;try go_frame
   refine rgTake 9 (some 137) hHeld _ ?_;try go_frame
   refine rgTake 10 (some 138) hHeld _ ?_;try go_frame
   refine rgTake 11 (some 139) hHeld _ ?_;try go_frame
   refine rgTake 12 (some 18) hHeld _ ?_;try go_frame
   refine rgTake 13 (some 19) hHeld _ ?_;try go_frame
   refine rgTake 14 (some 20) hHeld _ ?_;try go_frame
   refine wpAnyH_done (by kernel_rfl) ?_ _
   clear s0 t0 t1 t2 t3 t4 t5 t6 t7 hk0 hHeld
   have s0:w3.cell? ⟨w.heap.size,0,none⟩=some (.slice (some ⟨b0,off,none⟩) L.length c):=(KD.out.below bq).cell 0 rfl
   have Kr:=KR.out.below bq
   rw [HQK.out] at Kr
   obtain ⟨⟨t0,t1,t2,t3,t4,t5,t6,t7⟩, -⟩:=Kr.c8
   have BQ:=Lib.hid bq
   have BW:=Lib.hid (below_step bq H1.out)
   clear bq Kr
   have HO:Hid (O=if (e:Int)+n≤b.length then some (0,0,e+n.toNat) else none):=HO0
   go_wp2_with fail
   refine (HBY.out n e ⟨hne.2.2.1,hne.2.2.2⟩ hne.2.1 _ BW.out).mono ?_
   rintro e5 w5 ⟨n',B1,m1',d1,B2,m2',d2,next,code,rfl,hrk,bel⟩
   have bq5:=below_step bel BQ.out
   have HRK:=Lib.hid hrk
   have HQ5:=Lib.hid (And.intro bq5 (below_step bq5 H1.out))
   clear s0 t0 t1 t2 t3 t4 t5 t6 t7 bel bq5 hrk
   have Kq:=KV.out.below HQ5.out.1
   obtain ⟨⟨q0,q1,q2⟩,g0,g1,g2⟩:=Kq.c3
   obtain ⟨⟨z0,z1,z2⟩, -⟩:=(Kq.put3 (.int .i64 n') (.slice B1 m1' d1) (.slice B2 m2' d2)).c3
   have HF:=Lib.hid (below_put3 (HQ5.out.2) (show w.heap.size≤w.heap.size+1 by omega) (.int .i64 n') (.slice B1 m1' d1) (.slice B2 m2' d2))
   clear Kq
   go_wp2
   exact bodyPost_ret (v:= .tuple #[.agg #[.int .i64 n', .slice B1 m1' d1, .slice B2 m2' d2], .int .i64 next, .int .i64 code]) (by simp [results,Tryd.results104,go_sem,z0,z1,z2]) rfl ⟨n',B1,m1',d1,B2,m2',d2,next,code,rfl,by rw [HO.out];exact HRK.out,HF.out⟩
 ·have HQK:=Lib.hid q
  obtain ⟨e1,e2,e3,e4⟩:=HE.out
  have h0:=HF0.out.c5 q
  obtain ⟨q0,hq0,hqk,ek0, -,hs1,hs4, -⟩:=fldL HV.out hk (by omega) (by omega)
  obtain ⟨bk,ok,rfl,hbk,hkc⟩:=fld_cells HH.out hk (by omega) e4
  have hk0:=cell_keep hkc (H1.out.mono hB) hbk
  rw [ek0] at hk0
  have hkl:0 < L[k].d.kids.length:=by omega
  have hbkw:bk < w.heap.size:=by omega
  have hIN:∀W,Below w.heap.size w W→Calls Tryd.prog 105 #[.agg #[.slice (some ⟨b0,off,none⟩) L.length c], .int .i64 q0, .slice Ab b.length cb, .int .i64 i] W fun e w'=> e= .returned (riT (rdI (L.map RM.d) b q0 i) i)∧Below W.heap.size W w':=fun W hw=>
   l11Int_any _ _ L b q0 i B W (HH.out.below (hw.mono hB)) (HBB.out.below (hw.mono hB)) (by have:=hw.size;omega) hq0 ⟨hs1,hs4⟩ hi hl
  have hRB:∀n e,rdI (L.map RM.d) b q0 i=some (n,e)→i≤e∧e≤b.length∧0≤n∧n≤4294967295:=fun n e h=> by
   have h1:=rdI_bd h hi
   have h2:=rdI_n4 h (by rw [List.length_map];exact hq0) (by rw [List.getElem_map];omega)
   exact ⟨h1.1,h1.2.1,h1.2.2,h2⟩
  have hR0:kid L[k].d 0=(q0:Int):=by rw [kid_at _ _ (by omega),ek0]
  have hOB:=HOE.out.trans (by unfold rdB;rw [hR0];simp only [q];rfl:rdB (L.map RM.d) b (gE (L.map RM.d) b f) L[k].d k i=(match rdI (L.map RM.d) b q0 i with|none=> none|some (n,e)=> if 40 < n then none else (itE (gE (L.map RM.d) b f) (itR L[k].d 0 n.toNat) e).map fun x=> (0,n.toNat,x)))
  have hKQ:∀j,∃q1:Nat,itemR L[k].d 0 j=q1∧q1 < k:=fun j=> by
   rw [itemR_5 q,kid_at _ _ (show 1 < L[k].d.kids.length by omega)]
   exact ruleOk_kids HRO.out _
  have hIS:∀(cnt p:Nat),cnt≤255→p≤b.length→∀W,Below w.heap.size w W→Calls Tryd.prog 117 #[.agg #[.slice (some ⟨b0,off,none⟩) L.length c],rmV L[k], .int .i64 0, .int .i64 cnt, .slice Ab b.length cb, .int .i64 p] W (RdR ((itE (gE (L.map RM.d) b f) (itR L[k].d 0 cnt) p).map fun x=> (0,cnt,x)) W):=fun cnt p h4 hp W hw=> l11Items_any L sm HV.out k hk HIH.out f hf _ _ b 0 cnt p B W (HH.out.below (hw.mono hB)) (HBB.out.below (hw.mono hB)) (by have:=hw.size;omega) hp hl h4 fun j _=> hKQ j
  unfold rmV at hIS
  rw [e1,e2,e3,e4] at hIS
  have HIS:=Lib.hid hIS
  clear hIS
  rw [q] at t1
  clear HOE h0 hs1 hs4 hR0 hkc ek0 q hKQ
  have bq:=(Below.refl W1.heap.size W1).drew
  cases hR:rdI (L.map RM.d) b q0 i with
  |none=>
   rw [hR] at hIN hOB
   unfold riT at hIN
   have HIN:=Lib.hid hIN
   have HO:Hid (O=none):=Lib.hid hOB
   clear hIN hOB hR hRB
   go_wp2_with fail
   refine wp_region_held_drew (S:=(fun w9=> w9.cell? ⟨w.heap.size,0,none⟩=some (.slice (some ⟨b0,off,none⟩) L.length c)∧w9.cell? ⟨W0.heap.size,7,none⟩=some (.slice (some ⟨bk,ok,none⟩) L[k].d.kids.length c4)∧w9.cell? ⟨bk,ok,none⟩=some (.int .i64 q0))) (by kernel_rfl) ?_ (fun hHeld=> ?_)
   ·(try dsimp only);exact ⟨s0,t7,hk0⟩
   refine rgTake 0 (some 129) hHeld _ ?_;try go_frame
   refine rgTake 1 (some 130) hHeld _ ?_;try go_frame
   refine rgTake 2 (some 131) hHeld _ ?_;try go_frame
   refine rgTake 3 (some 132) hHeld _ ?_;try go_frame
   refine rgTake 4 (some 133) hHeld _ ?_;try go_frame
   refine rgTake 5 (some 134) hHeld _ ?_;try go_frame
   refine rgTake 6 (some 135) hHeld _ ?_;try go_frame
   refine rgStep 7 (fun K hK=> ?_)
   go_simp
   refine (HIN.out _ (below_step bq H1.out)).mono ?_;rintro e w3 ⟨rfl,bel⟩;have bq:=below_step bel bq
   (try go_wp2_with fail)
   refine hK.out _ _ ?_ (fun hHeld=> ?_)
   ·(try dsimp only);exact ⟨cell_later bq s0,cell_later bq t7,cell_later bq hk0⟩
   clear hK K
   try go_frame
   refine rgTake 8 (some 128) hHeld _ ?_;try go_frame
   refine rgTake 9 (some 137) hHeld _ ?_;try go_frame
   refine rgTake 10 (some 138) hHeld _ ?_;try go_frame
   refine rgTake 11 (some 139) hHeld _ ?_;try go_frame
   refine rgTake 12 (some 18) hHeld _ ?_;try go_frame
   refine rgTake 13 (some 19) hHeld _ ?_;try go_frame
   refine rgTake 14 (some 20) hHeld _ ?_;try go_frame
   refine wpAnyH_done (by kernel_rfl) ?_ _
   have HQ3:=Lib.hid (And.intro bq (below_step bq H1.out))
   clear bq s0 t0 t1 t2 t3 t4 t5 t6 t7 hk0 hHeld
   have Kq:=KV.out.below HQ3.out.1
   obtain ⟨⟨q0,q1,q2⟩,g0,g1,g2⟩:=Kq.c3
   obtain ⟨⟨z0,z1,z2⟩, -⟩:=(Kq.put3 (.int .i64 0) (.slice none 0 0) (.slice none 0 0)).c3
   have HF:=Lib.hid (below_put3 (HQ3.out.2) (show w.heap.size≤w.heap.size+1 by omega) (.int .i64 0) (.slice none 0 0) (.slice none 0 0))
   clear Kq
   go_wp2
   exact bodyPost_ret (v:= .tuple #[.agg #[.int .i64 0, .slice none 0 0, .slice none 0 0], .int .i64 i, .int .i64 1]) (by simp [results,Tryd.results104,go_sem,z0,z1,z2]) rfl ⟨0,none,0,0,none,0,0,i,1,rfl,by rw [HO.out];show (1:Int)≠0;decide,HF.out⟩
  |some y=>
   obtain ⟨n,e⟩:=y
   have hne:=hRB n e hR
   rw [hR] at hIN hOB
   unfold riT at hIN
   have HIN:=Lib.hid hIN
   have HO0:=Lib.hid hOB
   clear hIN hOB hR hRB
   go_wp2_with fail
   refine wp_region_held_drew (S:=(fun w9=> w9.cell? ⟨w.heap.size,0,none⟩=some (.slice (some ⟨b0,off,none⟩) L.length c)∧w9.cell? ⟨W0.heap.size,7,none⟩=some (.slice (some ⟨bk,ok,none⟩) L[k].d.kids.length c4)∧w9.cell? ⟨bk,ok,none⟩=some (.int .i64 q0))) (by kernel_rfl) ?_ (fun hHeld=> ?_)
   ·(try dsimp only);exact ⟨s0,t7,hk0⟩
   refine rgTake 0 (some 129) hHeld _ ?_;try go_frame
   refine rgTake 1 (some 130) hHeld _ ?_;try go_frame
   refine rgTake 2 (some 131) hHeld _ ?_;try go_frame
   refine rgTake 3 (some 132) hHeld _ ?_;try go_frame
   refine rgTake 4 (some 133) hHeld _ ?_;try go_frame
   refine rgTake 5 (some 134) hHeld _ ?_;try go_frame
   refine rgTake 6 (some 135) hHeld _ ?_;try go_frame
   refine rgStep 7 (fun K hK=> ?_)
   go_simp
   refine (HIN.out _ (below_step bq H1.out)).mono ?_;rintro e w3 ⟨rfl,bel⟩;have bq:=below_step bel bq
   (try go_wp2_with fail)
   refine hK.out _ _ ?_ (fun hHeld=> ?_)
   ·(try dsimp only);exact ⟨cell_later bq s0,cell_later bq t7,cell_later bq hk0⟩
   clear hK K
   try go_frame
   refine rgTake 8 (some 128) hHeld _ ?_;try go_frame
   refine rgTake 9 (some 137) hHeld _ ?_;try go_frame
   refine rgTake 10 (some 138) hHeld _ ?_;try go_frame
   refine rgTake 11 (some 139) hHeld _ ?_;try go_frame
   refine rgTake 12 (some 18) hHeld _ ?_;try go_frame
   refine rgTake 13 (some 19) hHeld _ ?_;try go_frame
   refine rgTake 14 (some 20) hHeld _ ?_;try go_frame
   refine wpAnyH_done (by kernel_rfl) ?_ _
   clear s0 t0 t1 t2 t3 t4 t5 t6 t7 hk0 hHeld
   have s0:w3.cell? ⟨w.heap.size,0,none⟩=some (.slice (some ⟨b0,off,none⟩) L.length c):=(KD.out.below bq).cell 0 rfl
   have Kr:=KR.out.below bq
   rw [HQK.out] at Kr
   obtain ⟨⟨t0,t1,t2,t3,t4,t5,t6,t7⟩, -⟩:=Kr.c8
   have BQ:=Lib.hid bq
   have BW:=Lib.hid (below_step bq H1.out)
   clear bq Kr
   by_cases h40:40 < n
   ·have HO:Hid (O=none):=Lib.hid (HO0.out.trans (if_pos h40))
    clear t0 t2 t3 t4 t5 t6 t7 s0
    have Kq:=KV.out.below BQ.out
    obtain ⟨⟨q0,q1,q2⟩,g0,g1,g2⟩:=Kq.c3
    obtain ⟨⟨z0,z1,z2⟩, -⟩:=(Kq.put3 (.int .i64 0) (.slice none 0 0) (.slice none 0 0)).c3
    have HF:=Lib.hid (below_put3 (BW.out) (show w.heap.size≤w.heap.size+1 by omega) (.int .i64 0) (.slice none 0 0) (.slice none 0 0))
    clear Kq
    go_wp2
    exact bodyPost_ret (v:= .tuple #[.agg #[.int .i64 0, .slice none 0 0, .slice none 0 0], .int .i64 i, .int .i64 6]) (by simp [results,Tryd.results104,go_sem,z0,z1,z2]) rfl ⟨0,none,0,0,none,0,0,i,6,rfl,by rw [HO.out];show (6:Int)≠0;decide,HF.out⟩
   ·obtain ⟨m,rfl⟩:=Int.eq_ofNat_of_zero_le hne.2.2.1
    have HO:Hid (O=(itE (gE (L.map RM.d) b f) (itR L[k].d 0 m) e).map fun x=> (0,m,x)):=Lib.hid ((HO0.out.trans (if_neg h40)).trans (by rw [Int.toNat_natCast]))
    have h40':¬(40:Int) < (m:Int):=h40
    rw [←HQK.out] at t1
    have HQK2:=HQK
    rw [HQK.out] at t1
    go_wp2_with fail
    rw [←HQK.out]
    refine (HIS.out m e (by omega) hne.2.1 _ BW.out).mono ?_
    rintro e5 w5 ⟨n',B1,m1',d1,B2,m2',d2,next,code,rfl,hrk,bel⟩
    have bq5:=below_step bel BQ.out
    have HRK:=Lib.hid hrk
    have HQ5:=Lib.hid (And.intro bq5 (below_step bq5 H1.out))
    clear s0 t0 t1 t2 t3 t4 t5 t6 t7 bel h40 h40' bq5 hrk
    have Kq:=KV.out.below HQ5.out.1
    obtain ⟨⟨q0,q1,q2⟩,g0,g1,g2⟩:=Kq.c3
    obtain ⟨⟨z0,z1,z2⟩, -⟩:=(Kq.put3 (.int .i64 n') (.slice B1 m1' d1) (.slice B2 m2' d2)).c3
    have HF:=Lib.hid (below_put3 (HQ5.out.2) (show w.heap.size≤w.heap.size+1 by omega) (.int .i64 n') (.slice B1 m1' d1) (.slice B2 m2' d2))
    clear Kq
    go_wp2
    exact bodyPost_ret (v:= .tuple #[.agg #[.int .i64 n', .slice B1 m1' d1, .slice B2 m2' d2], .int .i64 next, .int .i64 code]) (by simp [results,Tryd.results104,go_sem,z0,z1,z2]) rfl ⟨n',B1,m1',d1,B2,m2',d2,next,code,rfl,by rw [HO.out];exact HRK.out,HF.out⟩
 ·have HQK:=Lib.hid q
  obtain ⟨e1,e2,e3,e4⟩:=HE.out
  have HO:=Lib.hid (HOE.out.trans (by unfold rdB;simp only [q];rfl:rdB (L.map RM.d) b (gE (L.map RM.d) b f) L[k].d k i=(itE (gE (L.map RM.d) b f) (itR L[k].d 0 L[k].d.kids.length) i).map fun x=> (0,L[k].d.kids.length,x)))
  have hIS:∀W,Below w.heap.size w W→Calls Tryd.prog 117 #[.agg #[.slice (some ⟨b0,off,none⟩) L.length c],rmV L[k], .int .i64 0, .int .i64 L[k].d.kids.length, .slice Ab b.length cb, .int .i64 i] W (RdR ((itE (gE (L.map RM.d) b f) (itR L[k].d 0 L[k].d.kids.length) i).map fun x=> (0,L[k].d.kids.length,x)) W):=fun W hw=> l11Items_any L sm HV.out k hk HIH.out f hf _ _ b 0 _ i B W (HH.out.below (hw.mono hB)) (HBB.out.below (hw.mono hB)) (by have:=hw.size;omega) hi hl (by have:=HF0.out.c6 q;omega) fun j hj=> own_item (nb:=0) HRO.out (by rw [own_6 q];simp) hj
  unfold rmV at hIS
  rw [e1,e2,e3,e4] at hIS
  have HIS:=Lib.hid hIS
  clear hIS
  clear HOE e1 e2 e3 e4
  have hqk:=q
  rw [q] at t1
  clear q
  go_wp2_with fail
  (try rw [←HQK.out])
  refine (HIS.out _ H1.out).mono ?_
  rintro e5 w5 ⟨n',B1,m1',d1,B2,m2',d2,next,code,rfl,hrk,bel⟩
  have bq5:=below_step bel BQ.out
  have HRK:=Lib.hid hrk
  have HQ5:=Lib.hid (And.intro bq5 (below_step bq5 H1.out))
  clear s0 t0 t1 t2 t3 t4 t5 t6 t7 bel hqk bq5 hrk
  have Kq:=KV.out.below HQ5.out.1
  obtain ⟨⟨q0,q1,q2⟩,g0,g1,g2⟩:=Kq.c3
  obtain ⟨⟨z0,z1,z2⟩, -⟩:=(Kq.put3 (.int .i64 n') (.slice B1 m1' d1) (.slice B2 m2' d2)).c3
  have HF:=Lib.hid (below_put3 (HQ5.out.2) (show w.heap.size≤w.heap.size+1 by omega) (.int .i64 n') (.slice B1 m1' d1) (.slice B2 m2' d2))
  clear Kq
  go_wp2
  exact bodyPost_ret (v:= .tuple #[.agg #[.int .i64 n', .slice B1 m1' d1, .slice B2 m2' d2], .int .i64 next, .int .i64 code]) (by simp [results,Tryd.results104,go_sem,z0,z1,z2]) rfl ⟨n',B1,m1',d1,B2,m2',d2,next,code,rfl,by rw [HO.out];exact HRK.out,HF.out⟩
 ·have HQK:=Lib.hid q
  obtain ⟨e1,e2,e3,e4⟩:=HE.out
  have HO:=HOE
  have hCH:∀W,Below w.heap.size w W→Calls Tryd.prog 118 #[.agg #[.slice (some ⟨b0,off,none⟩) L.length c],rmV L[k], .slice Ab b.length cb, .int .i64 i] W (RdR (rdB (L.map RM.d) b (gE (L.map RM.d) b f) L[k].d k i) W):=fun W hw=> l11Choice_any L sm HV.out k hk HIH.out f hf _ _ b i B W (HH.out.below (hw.mono hB)) (HBB.out.below (hw.mono hB)) (by have:=hw.size;omega) hi hl q
  unfold rmV at hCH
  rw [e1,e2,e3,e4] at hCH
  have HCH:=Lib.hid hCH
  clear hCH
  clear HOE e1 e2 e3 e4
  rw [q] at t1
  clear q
  go_wp2_with fail
  rw [←HQK.out]
  refine (HCH.out _ H1.out).mono ?_
  rintro e5 w5 ⟨n',B1,m1',d1,B2,m2',d2,next,code,rfl,hrk,bel⟩
  have bq5:=below_step bel BQ.out
  have HRK:=Lib.hid hrk
  have HQ5:=Lib.hid (And.intro bq5 (below_step bq5 H1.out))
  clear s0 t0 t1 t2 t3 t4 t5 t6 t7 bel bq5 hrk
  have Kq:=KV.out.below HQ5.out.1
  obtain ⟨⟨q0,q1,q2⟩,g0,g1,g2⟩:=Kq.c3
  obtain ⟨⟨z0,z1,z2⟩, -⟩:=(Kq.put3 (.int .i64 n') (.slice B1 m1' d1) (.slice B2 m2' d2)).c3
  have HF:=Lib.hid (below_put3 (HQ5.out.2) (show w.heap.size≤w.heap.size+1 by omega) (.int .i64 n') (.slice B1 m1' d1) (.slice B2 m2' d2))
  clear Kq
  go_wp2
  exact bodyPost_ret (v:= .tuple #[.agg #[.int .i64 n', .slice B1 m1' d1, .slice B2 m2' d2], .int .i64 next, .int .i64 code]) (by simp [results,Tryd.results104,go_sem,z0,z1,z2]) rfl ⟨n',B1,m1',d1,B2,m2',d2,next,code,rfl,by rw [HO.out];exact HRK.out,HF.out⟩
 ·have HQK:=Lib.hid q
  obtain ⟨e1,e2,e3,e4⟩:=HE.out
  have HO:=HOE
  have hCH:∀W,Below w.heap.size w W→Calls Tryd.prog 119 #[.agg #[.slice (some ⟨b0,off,none⟩) L.length c],rmV L[k], .slice Ab b.length cb, .int .i64 i] W (RdR (rdB (L.map RM.d) b (gE (L.map RM.d) b f) L[k].d k i) W):=fun W hw=> l11Option_any L sm HV.out k hk HIH.out f hf _ _ b i B W (HH.out.below (hw.mono hB)) (HBB.out.below (hw.mono hB)) (by have:=hw.size;omega) hi hl q
  unfold rmV at hCH
  rw [e1,e2,e3,e4] at hCH
  have HCH:=Lib.hid hCH
  clear hCH
  clear HOE e1 e2 e3 e4
  rw [q] at t1
  clear q
  go_wp2_with fail
  rw [←HQK.out]
  refine (HCH.out _ H1.out).mono ?_
  rintro e5 w5 ⟨n',B1,m1',d1,B2,m2',d2,next,code,rfl,hrk,bel⟩
  have bq5:=below_step bel BQ.out
  have HRK:=Lib.hid hrk
  have HQ5:=Lib.hid (And.intro bq5 (below_step bq5 H1.out))
  clear s0 t0 t1 t2 t3 t4 t5 t6 t7 bel bq5 hrk
  have Kq:=KV.out.below HQ5.out.1
  obtain ⟨⟨q0,q1,q2⟩,g0,g1,g2⟩:=Kq.c3
  obtain ⟨⟨z0,z1,z2⟩, -⟩:=(Kq.put3 (.int .i64 n') (.slice B1 m1' d1) (.slice B2 m2' d2)).c3
  have HF:=Lib.hid (below_put3 (HQ5.out.2) (show w.heap.size≤w.heap.size+1 by omega) (.int .i64 n') (.slice B1 m1' d1) (.slice B2 m2' d2))
  clear Kq
  go_wp2
  exact bodyPost_ret (v:= .tuple #[.agg #[.int .i64 n', .slice B1 m1' d1, .slice B2 m2' d2], .int .i64 next, .int .i64 code]) (by simp [results,Tryd.results104,go_sem,z0,z1,z2]) rfl ⟨n',B1,m1',d1,B2,m2',d2,next,code,rfl,by rw [HO.out];exact HRK.out,HF.out⟩
 ·have HQK:=Lib.hid q
  obtain ⟨e1,e2,e3,e4⟩:=HE.out
  have HO:=HOE
  have hCH:∀W,Below w.heap.size w W→Calls Tryd.prog 120 #[.agg #[.slice (some ⟨b0,off,none⟩) L.length c],rmV L[k], .slice Ab b.length cb, .int .i64 i] W (RdR (rdB (L.map RM.d) b (gE (L.map RM.d) b f) L[k].d k i) W):=fun W hw=> l11Checked_any L sm HV.out k hk HIH.out f hf _ _ b i B W (HH.out.below (hw.mono hB)) (HBB.out.below (hw.mono hB)) (by have:=hw.size;omega) hi hl q
  unfold rmV at hCH
  rw [e1,e2,e3,e4] at hCH
  have HCH:=Lib.hid hCH
  clear hCH
  clear HOE e1 e2 e3 e4
  rw [q] at t1
  clear q
  go_wp2_with fail
  rw [←HQK.out]
  refine (HCH.out _ H1.out).mono ?_
  rintro e5 w5 ⟨n',B1,m1',d1,B2,m2',d2,next,code,rfl,hrk,bel⟩
  have bq5:=below_step bel BQ.out
  have HRK:=Lib.hid hrk
  have HQ5:=Lib.hid (And.intro bq5 (below_step bq5 H1.out))
  clear s0 t0 t1 t2 t3 t4 t5 t6 t7 bel bq5 hrk
  have Kq:=KV.out.below HQ5.out.1
  obtain ⟨⟨q0,q1,q2⟩,g0,g1,g2⟩:=Kq.c3
  obtain ⟨⟨z0,z1,z2⟩, -⟩:=(Kq.put3 (.int .i64 n') (.slice B1 m1' d1) (.slice B2 m2' d2)).c3
  have HF:=Lib.hid (below_put3 (HQ5.out.2) (show w.heap.size≤w.heap.size+1 by omega) (.int .i64 n') (.slice B1 m1' d1) (.slice B2 m2' d2))
  clear Kq
  go_wp2
  exact bodyPost_ret (v:= .tuple #[.agg #[.int .i64 n', .slice B1 m1' d1, .slice B2 m2' d2], .int .i64 next, .int .i64 code]) (by simp [results,Tryd.results104,go_sem,z0,z1,z2]) rfl ⟨n',B1,m1',d1,B2,m2',d2,next,code,rfl,by rw [HO.out];exact HRK.out,HF.out⟩
 ·have HQK:=Lib.hid q
  obtain ⟨e1,e2,e3,e4⟩:=HE.out
  have h10:=bytes_10 hkind q
  obtain ⟨t,ht⟩:=List.length_eq_one_iff.1 h10
  have hOB:=HOE.out.trans (by unfold rdB;rw [ht];simp only [q];rfl:rdB (L.map RM.d) b (gE (L.map RM.d) b f) L[k].d k i=(termE t (b.drop i) i).map fun x=> (0,0,x))
  have hTC:∃bt ot,A1=some ⟨bt,ot,none⟩∧bt < B∧W1.cell? ⟨bt,ot,none⟩=some (.int .u8 (t.toNat:Int)):=by
   obtain ⟨A',c',e', -, -,hc'⟩:=(HH.out.2 _ (List.getElem_mem hk)).b.one
   rw [e1] at e'
   simp only [Value.slice.injEq] at e'
   obtain ⟨bb,oo,e2',h3',h4'⟩:=hc' 0 (by omega)
   refine ⟨bb,oo,by rw [e'.1];exact e2',h3',?_⟩
   have h5':=cell_at (H1.out.mono hB) h3' h4'
   simpa [u8v,ht] using h5'
  obtain ⟨bt,ot,rfl,hbt,htc⟩:=hTC
  have hbtw:bt < w.heap.size:=by omega
  have hRT:∀W,Below w.heap.size w W→Calls Tryd.prog 116 #[.slice Ab b.length cb, .int .i64 i, .int .u8 (t.toNat:Int)] W (TmE (termE t (b.drop i) i) W):=fun W hw=>
   readTerm_any _ b i B t W (HBB.out.below (hw.mono hB)) (by have:=hw.size;omega) hi hl
  have HRT:=Lib.hid hRT
  have HO0:=Lib.hid hOB
  rw [q] at t1
  rw [h10] at t4
  clear HOE e1 e2 e3 e4 ht h10 q hRT hOB
  go_wp2_with fail
  refine (HRT.out _ H1.out).mono ?_
  rintro e5 w5 ⟨At,mt,ct,next,okt,rfl,hte,bel⟩
  have HQ5:=Lib.hid (And.intro bel (below_step bel H1.out))
  clear s0 t0 t1 t2 t3 t4 t5 t6 t7 bel htc
  cases hT:termE t (b.drop i) i with
  |none=>
   rw [hT] at hte
   have hte:okt=false:=hte
   subst hte
   have HO:Hid (O=none):=Lib.hid (by rw [HO0.out,hT];rfl)
   clear hT
   have Kq:=KV.out.below HQ5.out.1
   obtain ⟨⟨q0,q1,q2⟩,g0,g1,g2⟩:=Kq.c3
   obtain ⟨⟨z0,z1,z2⟩, -⟩:=(Kq.put3 (.int .i64 0) (.slice none 0 0) (.slice none 0 0)).c3
   have HF:=Lib.hid (below_put3 (HQ5.out.2) (show w.heap.size≤w.heap.size+1 by omega) (.int .i64 0) (.slice none 0 0) (.slice none 0 0))
   clear Kq
   go_wp2
   exact bodyPost_ret (v:= .tuple #[.agg #[.int .i64 0, .slice none 0 0, .slice none 0 0], .int .i64 i, .int .i64 1]) (by simp [results,Tryd.results104,go_sem,z0,z1,z2]) rfl ⟨0,none,0,0,none,0,0,i,1,rfl,by rw [HO.out];show (1:Int)≠0;decide,HF.out⟩
  |some x=>
   rw [hT] at hte
   obtain ⟨h1,h2⟩:=hte
   subst h1 h2
   have HO:Hid (O=some (0,0,x)):=Lib.hid (by rw [HO0.out,hT];rfl)
   clear hT
   have Kq:=KV.out.below HQ5.out.1
   obtain ⟨⟨q0,q1,q2⟩,g0,g1,g2⟩:=Kq.c3
   obtain ⟨⟨z0,z1,z2⟩, -⟩:=(Kq.put3 (.int .i64 0) (.slice At mt ct) (.slice none 0 0)).c3
   have HF:=Lib.hid (below_put3 (HQ5.out.2) (show w.heap.size≤w.heap.size+1 by omega) (.int .i64 0) (.slice At mt ct) (.slice none 0 0))
   clear Kq
   go_wp2
   exact bodyPost_ret (v:= .tuple #[.agg #[.int .i64 0, .slice At mt ct, .slice none 0 0], .int .i64 x, .int .i64 0]) (by simp [results,Tryd.results104,go_sem,z0,z1,z2]) rfl ⟨0,At,mt,ct,none,0,0,x,0,rfl,by rw [HO.out];exact ⟨rfl,rfl,rfl,rfl⟩,HF.out⟩
end Go.Proofs.YteldgdelmaeokaaDoor
namespace Go.Proofs.YteldgdelmaeokaaDoor
open Go.RowKit
theorem rootS_any (v:Value) (L:List RM) (B:Nat) (w:World) (h:SlD w B v L) (h1:1≤L.length) (hm:L.length≤24):Calls Tryd.prog 36 #[.agg #[v]] w fun e w'=> e= .returned (.int .i64 ((L.length - 1:Nat):Int))∧Below w.heap.size w w':=by
 obtain ⟨A,c,rfl, -⟩:=h.open_
 have hb:=Below.allocW w (.cells #[.slice A L.length c] 26) (Nat.le_refl _)
 have HC:=Lib.hid (show (L.length:Int) - 1=((L.length - 1:Nat):Int) by omega)
 clear h
 go_enter Tryd.func36,Tryd.ntmps36
 go_wp2
 go_ret
 exact ⟨ret_int HC.out,hb⟩
set_option maxHeartbeats 4000000 in
set_option maxRecDepth 100000 in
theorem readValue_any (vD vb:Value) (L:List RM) (b:List UInt8) (k i B:Nat) (w:World) (h:SlD w B vD L) (hb:SlB w B vb b) (hB:B≤w.heap.size) (ok:∀r∈L,r.d.ok) (sm:∀r∈L,r.d.small 1048576) (hv:validD (L.map RM.d)=true) (hk:k < L.length) (hi:i≤b.length) (hl:b.length≤400):
  Calls Tryd.prog 113 #[.agg #[vD], .int .i64 k,vb, .int .i64 i] w (RdR (rdE (L.map RM.d) b L.length k i) w):=by
 have hlm:(L.map RM.d).length=L.length:=List.length_map ..
 have hkn:knownD (L.map RM.d) k=true:=by
  unfold knownD
  rw [hv,Bool.and_true]
  exact inB_iff.2 (by omega)
 have hK:∀W,Below w.heap.size w W→Calls Tryd.prog 40 #[.agg #[vD], .int .i64 k] W fun e w'=> e= .returned (.bool true)∧Below W.heap.size W w':=fun W hw=> by
  have:=specKnown_any vD L k B W (h.below (hw.mono hB)) (by have:=hw.size;omega) ok sm
  rwa [hkn] at this
 have hR:∀W,Below w.heap.size w W→Calls Tryd.prog 104 #[.agg #[vD], .int .i64 k,vb, .int .i64 i] W (RdR (rdE (L.map RM.d) b L.length k i) W):=fun W hw=>
  l11Read_any L sm hv k hk L.length hk vD vb b i B W (h.below (hw.mono hB)) (hb.below (hw.mono hB)) (by have:=hw.size;omega) hi hl
 have hin:inB (i:Int) 0 b.length=true:=inB_true (by omega) (by omega)
 obtain ⟨A,c,rfl,hc,hm, -⟩:=h.open_
 obtain ⟨Ab,cb,rfl,hcb,hmb, -⟩:=hb.one
 have HK:=Lib.hid hK
 have HR:=Lib.hid hR
 unfold maxLen at hm hmb
 obtain ⟨O,hO⟩:∃O,O=rdE (L.map RM.d) b L.length k i:=⟨_,rfl⟩
 rw [←hO] at HR ⊢
 clear hO hK hR h hb ok sm hv hkn hlm
 obtain ⟨W0,hW0⟩:∃W0,W0=(w.alloc (.cells #[.slice A L.length c] 26)).alloc (.cells #[.int .i64 0, .slice none 0 0, .slice none 0 0] 29):=⟨_,rfl⟩
 have hb0:Below w.heap.size w W0:=by rw [hW0];exact ((Below.refl w.heap.size w).alloc (Nat.le_refl _) _).alloc (by simp) _
 have Kd:Blk W0 w.heap.size 26 #[.slice A L.length c]:=by rw [hW0];exact (Blk.new w _ _).alloc _
 have Kv:Blk W0 (w.heap.size+1) 29 #[.int .i64 0, .slice none 0 0, .slice none 0 0]:=by
  rw [hW0]
  have:=Blk.new (w.alloc (.cells #[.slice A L.length c] 26)) 29 #[.int .i64 0, .slice none 0 0, .slice none 0 0]
  simpa using this
 have s0:W0.cell? ⟨w.heap.size,0,none⟩=some (.slice A L.length c):=Kd.cell 0 rfl
 have KD:=Lib.hid Kd
 have KV:=Lib.hid Kv
 have HB0:=Lib.hid hb0
 clear Kd Kv hb0
 go_enter Tryd.func113,Tryd.ntmps113
 go_upto_region 1 with fail
 rw [←hW0]
 clear hW0
 go_wp2_with fail
 refine (HK.out _ HB0.out).mono ?_
 rintro e w1 ⟨rfl,bel⟩
 have bq:=bel
 have s0:w1.cell? ⟨w.heap.size,0,none⟩=some (.slice A L.length c):=(KD.out.below bq).cell 0 rfl
 have H1:=Lib.hid (And.intro bq (below_step bq HB0.out))
 clear bq bel
 go_wp2_with fail
 refine (l1In_any _ _ _ _).mono ?_
 rintro e w2 ⟨rfl,rfl⟩
 rw [hin]
 go_wp2_with fail
 refine (HR.out _ H1.out.2).mono ?_
 rintro e5 w5 ⟨n',B1,m1',d1,B2,m2',d2,next,code,rfl,hrk,bel⟩
 have bq5:=below_step bel H1.out.1
 have HRK:=Lib.hid hrk
 have Kq:=KV.out.below bq5
 obtain ⟨⟨q0,q1,q2⟩,g0,g1,g2⟩:=Kq.c3
 obtain ⟨⟨z0,z1,z2⟩, -⟩:=(Kq.put3 (.int .i64 n') (.slice B1 m1' d1) (.slice B2 m2' d2)).c3
 have HF:=Lib.hid (below_put3 (below_step bq5 HB0.out) (show w.heap.size≤w.heap.size+1 by omega) (.int .i64 n') (.slice B1 m1' d1) (.slice B2 m2' d2))
 clear Kq bel bq5 hrk s0
 go_wp2
 exact bodyPost_ret (v:= .tuple #[.agg #[.int .i64 n', .slice B1 m1' d1, .slice B2 m2' d2], .int .i64 next, .int .i64 code]) (by simp [results,Tryd.results113,go_sem,z0,z1,z2]) rfl ⟨n',B1,m1',d1,B2,m2',d2,next,code,rfl,HRK.out,HF.out⟩
def fileE (D:List RuleD) (b:List UInt8):Option (Int × Nat × Nat):=match rdE D b D.length (D.length - 1:Nat) 0 with
 |none=> none
 |some x=> if x.2.2 < b.length then none else some x
set_option maxHeartbeats 4000000 in
set_option maxRecDepth 100000 in
theorem readFile_any (vD vb:Value) (L:List RM) (b:List UInt8) (B:Nat) (w:World) (h:SlD w B vD L) (hb:SlB w B vb b) (hB:B≤w.heap.size) (ok:∀r∈L,r.d.ok) (sm:∀r∈L,r.d.small 1048576) (hv:validD (L.map RM.d)=true) (h1:1≤L.length) (h24:L.length≤24) (hl:b.length≤400):
  Calls Tryd.prog 103 #[.agg #[vD],vb] w (RdR (fileE (L.map RM.d) b) w):=by
 have hlm:(L.map RM.d).length=L.length:=List.length_map ..
 have hT:∀W,Below w.heap.size w W→Calls Tryd.prog 36 #[.agg #[vD]] W fun e w'=> e= .returned (.int .i64 ((L.length - 1:Nat):Int))∧Below W.heap.size W w':=fun W hw=> rootS_any vD L B W (h.below (hw.mono hB)) h1 h24
 have hR:∀W,Below w.heap.size w W→Calls Tryd.prog 113 #[.agg #[vD], .int .i64 ((L.length - 1:Nat):Int),vb, .int .i64 0] W (RdR (rdE (L.map RM.d) b L.length (L.length - 1:Nat) 0) W):=fun W hw=>
  readValue_any vD vb L b (L.length - 1) 0 B W (h.below (hw.mono hB)) (hb.below (hw.mono hB)) (by have:=hw.size;omega) ok sm hv (by omega) (by omega) hl
 obtain ⟨A,c,rfl,hc,hm, -⟩:=h.open_
 obtain ⟨Ab,cb,rfl,hcb,hmb, -⟩:=hb.one
 obtain ⟨O,hO⟩:∃O,O=fileE (L.map RM.d) b:=⟨_,rfl⟩
 rw [←hO]
 have hOE:O=(match rdE (L.map RM.d) b L.length (L.length - 1:Nat) 0 with|none=> none|some x=> if x.2.2 < b.length then none else some x):=by rw [hO];unfold fileE;rw [hlm]
 generalize rdE (L.map RM.d) b L.length (L.length - 1:Nat) 0=R at*
 have HT:=Lib.hid hT
 have HR:=Lib.hid hR
 have HOE:=Lib.hid hOE
 unfold maxLen at hm hmb
 clear hT hR h hb hO hOE ok sm hv hlm
 generalize L.length - 1=root at*
 obtain ⟨W0,hW0⟩:∃W0,W0=(w.alloc (.cells #[.slice A L.length c] 26)).alloc (.cells #[.int .i64 0, .slice none 0 0, .slice none 0 0] 29):=⟨_,rfl⟩
 have hb0:Below w.heap.size w W0:=by rw [hW0];exact ((Below.refl w.heap.size w).alloc (Nat.le_refl _) _).alloc (by simp) _
 have Kd:Blk W0 w.heap.size 26 #[.slice A L.length c]:=by rw [hW0];exact (Blk.new w _ _).alloc _
 have Kv:Blk W0 (w.heap.size+1) 29 #[.int .i64 0, .slice none 0 0, .slice none 0 0]:=by
  rw [hW0]
  have:=Blk.new (w.alloc (.cells #[.slice A L.length c] 26)) 29 #[.int .i64 0, .slice none 0 0, .slice none 0 0]
  simpa using this
 have s0:W0.cell? ⟨w.heap.size,0,none⟩=some (.slice A L.length c):=Kd.cell 0 rfl
 have KV:=Lib.hid Kv
 have HB0:=Lib.hid hb0
 clear Kd Kv hb0
 go_enter Tryd.func103,Tryd.ntmps103
 go_upto_region 1 with fail
 rw [←hW0]
 clear hW0
 go_cut [7,8,9] (fun s17 s18 s19 wx=> ∃(g:Nat) (n':Int) (B1:Option Addr) (m1' d1:Nat) (B2:Option Addr) (m2' d2:Nat) (next code:Int),s17= .pointer (some ⟨g,0,none⟩)∧s18= .int .i64 next∧s19= .int .i64 code∧Blk wx g 29 #[.int .i64 n', .slice B1 m1' d1, .slice B2 m2' d2]∧Hid (rdK R n' m2' next code)∧W0.heap.size≤g∧Below W0.heap.size W0 wx)
 case first=>
  have bq:=(Below.refl W0.heap.size W0).drew
  go_wp2_with fail
  refine wp_region_held_drew (S:=(fun w9=> w9.cell? ⟨w.heap.size,0,none⟩=some (.slice A L.length c))) (by kernel_rfl) ?_ (fun hHeld=> ?_)
  ·(try dsimp only);exact s0
  refine rgTake 0 (some 11) hHeld _ ?_;try go_frame
  refine rgTake 1 (some 12) hHeld _ ?_;try go_frame
  refine rgTake 3 (some 14) hHeld _ ?_;try go_frame
  refine rgTwo 2 9 (fun K hK=> ?_) (fun K hK=> ?_)
  ·go_simp
   refine (HT.out _ (below_step bq HB0.out)).mono ?_;rintro e wq ⟨rfl,bel⟩;have bq:=below_step bel bq;(try have zB:=zB.below bel)
   (try go_wp2_with fail)
   refine hK.out _ _ ?_ (fun hHeld=> ?_)
   ·(try dsimp only);exact cell_later bq s0
   clear hK K
   try go_frame
   refine rgTwo 4 9 (fun K hK=> ?_) (fun K hK=> ?_)
   ·go_simp
    refine (HR.out _ (below_step bq HB0.out)).mono ?_;rintro e wq ⟨n',B1,m1',d1,B2,m2',d2,next,code,rfl,hrk,bel⟩;have hRK:=Lib.hid hrk;clear hrk;have bq:=below_step bel bq;(try have zB:=zB.below bel)
    (try go_wp2_with fail)
    refine hK.out _ _ ?_ (fun hHeld=> ?_)
    ·(try dsimp only);exact cell_later bq s0
    clear hK K
    try go_frame
    refine rgTake 5 (some 10) hHeld _ ?_;try go_frame
    refine rgTake 6 (some 16) hHeld _ ?_;try go_frame
    refine rgTake 7 (some 17) hHeld _ ?_;try go_frame
    refine rgTake 8 (some 18) hHeld _ ?_;try go_frame
    refine rgStep 9 (fun K hK=> ?_)
    (try go_simp)
    have hge:=bq.size;first|(have zB:=Blk.new wq 29 #[.int .i64 0, .slice none 0 0, .slice none 0 0];have bq:=bq.alloc bq.size (.cells #[.int .i64 0, .slice none 0 0, .slice none 0 0] 29);generalize wq.alloc (.cells #[.int .i64 0, .slice none 0 0, .slice none 0 0] 29)=wa at*)|(have zB:Blk (W0.alloc (.cells #[.int .i64 0, .slice none 0 0, .slice none 0 0] 29)).drew W0.heap.size 29 #[.int .i64 0, .slice none 0 0, .slice none 0 0]:=Blk.new W0 _ _;have bq:Below W0.heap.size W0 (W0.alloc (.cells #[.int .i64 0, .slice none 0 0, .slice none 0 0] 29)).drew:=((Below.refl W0.heap.size W0).alloc (Nat.le_refl _) _).drew;generalize (W0.alloc (.cells #[.int .i64 0, .slice none 0 0, .slice none 0 0] 29)).drew=wa at*)
    refine hK.out _ _ ?_ (fun hHeld=> ?_)
    ·(try dsimp only);exact cell_later bq s0
    clear hK K
    try go_frame
    refine rgStep 10 (fun K hK=> ?_)
    (try go_simp)
    have bq:=below_put3 bq hge (.int .i64 n') (.slice B1 m1' d1) (.slice B2 m2' d2);obtain ⟨⟨z0,z1,z2⟩,y0,y1,y2⟩:=zB.c3;go_simp;have zB:=zB.put3 (.int .i64 n') (.slice B1 m1' d1) (.slice B2 m2' d2)
    refine hK.out _ _ ?_ (fun hHeld=> ?_)
    ·(try dsimp only);exact cell_later bq s0
    clear hK K
    try go_frame
    refine rgTake 11 (some 8) hHeld _ ?_;try go_frame
    refine rgTake 12 (some 9) hHeld _ ?_;try go_frame
    refine wpAnyH_done (by kernel_rfl) ?_ _
    go_wp2_with fail
    go_meet
    exact ⟨_,n',B1,m1',d1,B2,m2',d2,next,code,rfl,rfl,rfl,zB,hRK,hge,bq⟩
   ·(try go_simp)
    have hge:=bq.size;first|(have zB:=Blk.new wq 29 #[.int .i64 0, .slice none 0 0, .slice none 0 0];have bq:=bq.alloc bq.size (.cells #[.int .i64 0, .slice none 0 0, .slice none 0 0] 29);generalize wq.alloc (.cells #[.int .i64 0, .slice none 0 0, .slice none 0 0] 29)=wa at*)|(have zB:Blk (W0.alloc (.cells #[.int .i64 0, .slice none 0 0, .slice none 0 0] 29)).drew W0.heap.size 29 #[.int .i64 0, .slice none 0 0, .slice none 0 0]:=Blk.new W0 _ _;have bq:Below W0.heap.size W0 (W0.alloc (.cells #[.int .i64 0, .slice none 0 0, .slice none 0 0] 29)).drew:=((Below.refl W0.heap.size W0).alloc (Nat.le_refl _) _).drew;generalize (W0.alloc (.cells #[.int .i64 0, .slice none 0 0, .slice none 0 0] 29)).drew=wa at*)
    refine hK.out _ _ ?_ (fun hHeld=> ?_)
    ·(try dsimp only);exact cell_later bq s0
    clear hK K
    try go_frame
    refine rgStep 4 (fun K hK=> ?_)
    go_simp
    refine (HR.out _ (below_step bq HB0.out)).mono ?_;rintro e wq ⟨n',B1,m1',d1,B2,m2',d2,next,code,rfl,hrk,bel⟩;have hRK:=Lib.hid hrk;clear hrk;have bq:=below_step bel bq;(try have zB:=zB.below bel)
    (try go_wp2_with fail)
    refine hK.out _ _ ?_ (fun hHeld=> ?_)
    ·(try dsimp only);exact cell_later bq s0
    clear hK K
    try go_frame
    refine rgTake 5 (some 10) hHeld _ ?_;try go_frame
    refine rgTake 6 (some 16) hHeld _ ?_;try go_frame
    refine rgTake 7 (some 17) hHeld _ ?_;try go_frame
    refine rgTake 8 (some 18) hHeld _ ?_;try go_frame
    refine rgStep 10 (fun K hK=> ?_)
    (try go_simp)
    have bq:=below_put3 bq hge (.int .i64 n') (.slice B1 m1' d1) (.slice B2 m2' d2);obtain ⟨⟨z0,z1,z2⟩,y0,y1,y2⟩:=zB.c3;go_simp;have zB:=zB.put3 (.int .i64 n') (.slice B1 m1' d1) (.slice B2 m2' d2)
    refine hK.out _ _ ?_ (fun hHeld=> ?_)
    ·(try dsimp only);exact cell_later bq s0
    clear hK K
    try go_frame
    refine rgTake 11 (some 8) hHeld _ ?_;try go_frame
    refine rgTake 12 (some 9) hHeld _ ?_;try go_frame
    refine wpAnyH_done (by kernel_rfl) ?_ _
    go_wp2_with fail
    go_meet
    exact ⟨_,n',B1,m1',d1,B2,m2',d2,next,code,rfl,rfl,rfl,zB,hRK,hge,bq⟩
  ·(try go_simp)
   have hge:=bq.size;first|(have zB:=Blk.new wq 29 #[.int .i64 0, .slice none 0 0, .slice none 0 0];have bq:=bq.alloc bq.size (.cells #[.int .i64 0, .slice none 0 0, .slice none 0 0] 29);generalize wq.alloc (.cells #[.int .i64 0, .slice none 0 0, .slice none 0 0] 29)=wa at*)|(have zB:Blk (W0.alloc (.cells #[.int .i64 0, .slice none 0 0, .slice none 0 0] 29)).drew W0.heap.size 29 #[.int .i64 0, .slice none 0 0, .slice none 0 0]:=Blk.new W0 _ _;have bq:Below W0.heap.size W0 (W0.alloc (.cells #[.int .i64 0, .slice none 0 0, .slice none 0 0] 29)).drew:=((Below.refl W0.heap.size W0).alloc (Nat.le_refl _) _).drew;generalize (W0.alloc (.cells #[.int .i64 0, .slice none 0 0, .slice none 0 0] 29)).drew=wa at*)
   refine hK.out _ _ ?_ (fun hHeld=> ?_)
   ·(try dsimp only);exact cell_later bq s0
   clear hK K
   try go_frame
   refine rgStep 2 (fun K hK=> ?_)
   go_simp
   refine (HT.out _ (below_step bq HB0.out)).mono ?_;rintro e wq ⟨rfl,bel⟩;have bq:=below_step bel bq;(try have zB:=zB.below bel)
   (try go_wp2_with fail)
   refine hK.out _ _ ?_ (fun hHeld=> ?_)
   ·(try dsimp only);exact cell_later bq s0
   clear hK K
   try go_frame
   refine rgStep 4 (fun K hK=> ?_)
   go_simp
   refine (HR.out _ (below_step bq HB0.out)).mono ?_;rintro e wq ⟨n',B1,m1',d1,B2,m2',d2,next,code,rfl,hrk,bel⟩;have hRK:=Lib.hid hrk;clear hrk;have bq:=below_step bel bq;(try have zB:=zB.below bel)
   (try go_wp2_with fail)
   refine hK.out _ _ ?_ (fun hHeld=> ?_)
   ·(try dsimp only);exact cell_later bq s0
   clear hK K
   try go_frame
   refine rgTake 5 (some 10) hHeld _ ?_;try go_frame
   refine rgTake 6 (some 16) hHeld _ ?_;try go_frame
   refine rgTake 7 (some 17) hHeld _ ?_;try go_frame
   refine rgTake 8 (some 18) hHeld _ ?_;try go_frame
   refine rgStep 10 (fun K hK=> ?_)
   (try go_simp)
   have bq:=below_put3 bq hge (.int .i64 n') (.slice B1 m1' d1) (.slice B2 m2' d2);obtain ⟨⟨z0,z1,z2⟩,y0,y1,y2⟩:=zB.c3;go_simp;have zB:=zB.put3 (.int .i64 n') (.slice B1 m1' d1) (.slice B2 m2' d2)
   refine hK.out _ _ ?_ (fun hHeld=> ?_)
   ·(try dsimp only);exact cell_later bq s0
   clear hK K
   try go_frame
   refine rgTake 11 (some 8) hHeld _ ?_;try go_frame
   refine rgTake 12 (some 9) hHeld _ ?_;try go_frame
   refine wpAnyH_done (by kernel_rfl) ?_ _
   go_wp2_with fail
   go_meet
   exact ⟨_,n',B1,m1',d1,B2,m2',d2,next,code,rfl,rfl,rfl,zB,hRK,hge,bq⟩
 obtain ⟨g,n',B1,m1',d1,B2,m2',d2,next,code,rfl,rfl,rfl,zB,hRK,hge,bq⟩:=hcut
 obtain ⟨w5,hWc⟩:∃W9:World,W9=wc:=⟨_,rfl⟩
 subst hWc
 obtain ⟨⟨v0,v1,v2⟩, -⟩:=zB.c3
 have Kq:=KV.out.below bq
 obtain ⟨⟨q0,q1,q2⟩,g0,g1,g2⟩:=Kq.c3
 have bw:=below_step bq HB0.out
 cases R with
 |none=>
  have HO:Hid (O=none):=Lib.hid HOE.out
  have hcode:code≠0:=hRK.out
  have hce:(code==0)=false:=by simp [hcode]
  have HCD:=Lib.hid hcode
  obtain ⟨⟨z0,z1,z2⟩, -⟩:=(Kq.put3 (.int .i64 n') (.slice B1 m1' d1) (.slice B2 m2' d2)).c3
  have HF:=Lib.hid (below_put3 bw (show w.heap.size≤w.heap.size+1 by omega) (.int .i64 n') (.slice B1 m1' d1) (.slice B2 m2' d2))
  clear Kq bw bq zB hcode s0
  go_wp2
  exact bodyPost_ret (v:= .tuple #[.agg #[.int .i64 n', .slice B1 m1' d1, .slice B2 m2' d2], .int .i64 next, .int .i64 code]) (by simp [results,Tryd.results103,go_sem,z0,z1,z2]) rfl ⟨n',B1,m1',d1,B2,m2',d2,next,code,rfl,by rw [HO.out];exact HCD.out,HF.out⟩
 |some y=>
  obtain ⟨n2,c2',e2⟩:=y
  obtain ⟨h1',h2',h3',h4'⟩:=hRK.out
  subst h1' h2' h3' h4'
  by_cases hlt:e2 < b.length
  ·have HO:Hid (O=none):=Lib.hid (HOE.out.trans (if_pos hlt))
   have hlt':(e2:Int) < (b.length:Int):=by omega
   obtain ⟨⟨z0,z1,z2⟩, -⟩:=(Kq.put3 (.int .i64 0) (.slice none 0 0) (.slice none 0 0)).c3
   have HF:=Lib.hid (below_put3 bw (show w.heap.size≤w.heap.size+1 by omega) (.int .i64 0) (.slice none 0 0) (.slice none 0 0))
   clear Kq bw bq zB s0 hlt
   go_wp2
   exact bodyPost_ret (v:= .tuple #[.agg #[.int .i64 0, .slice none 0 0, .slice none 0 0], .int .i64 e2, .int .i64 7]) (by simp [results,Tryd.results103,go_sem,z0,z1,z2]) rfl ⟨0,none,0,0,none,0,0,e2,7,rfl,by rw [HO.out];show (7:Int)≠0;decide,HF.out⟩
  ·have HO:Hid (O=some (n',m2',e2)):=Lib.hid (HOE.out.trans (if_neg hlt))
   have hlt':¬(e2:Int) < (b.length:Int):=by omega
   obtain ⟨⟨z0,z1,z2⟩, -⟩:=(Kq.put3 (.int .i64 n') (.slice B1 m1' d1) (.slice B2 m2' d2)).c3
   have HF:=Lib.hid (below_put3 bw (show w.heap.size≤w.heap.size+1 by omega) (.int .i64 n') (.slice B1 m1' d1) (.slice B2 m2' d2))
   clear Kq bw bq zB s0 hlt
   go_wp2
   exact bodyPost_ret (v:= .tuple #[.agg #[.int .i64 n', .slice B1 m1' d1, .slice B2 m2' d2], .int .i64 e2, .int .i64 0]) (by simp [results,Tryd.results103,go_sem,z0,z1,z2]) rfl ⟨n',B1,m1',d1,B2,m2',d2,e2,0,rfl,by rw [HO.out];exact ⟨rfl,rfl,rfl,rfl⟩,HF.out⟩
set_option maxHeartbeats 4000000 in
set_option maxRecDepth 100000 in
theorem isFile_any (vD vb:Value) (L:List RM) (b:List UInt8) (B:Nat) (w:World) (h:SlD w B vD L) (hb:SlB w B vb b) (hB:B≤w.heap.size) (ok:∀r∈L,r.d.ok) (sm:∀r∈L,r.d.small 1048576) (hv:validD (L.map RM.d)=true) (h1:1≤L.length) (h24:L.length≤24) (hl:b.length≤400):
  Calls Tryd.prog 86 #[.agg #[vD],vb] w fun e w'=> e= .returned (.bool (fileE (L.map RM.d) b).isSome)∧Below w.heap.size w w':=by
 have hR:∀W,Below w.heap.size w W→Calls Tryd.prog 103 #[.agg #[vD],vb] W (RdR (fileE (L.map RM.d) b) W):=fun W hw=>
  readFile_any vD vb L b B W (h.below (hw.mono hB)) (hb.below (hw.mono hB)) (by have:=hw.size;omega) ok sm hv h1 h24 hl
 obtain ⟨A,c,rfl,hc,hm, -⟩:=h.open_
 obtain ⟨Ab,cb,rfl,hcb,hmb, -⟩:=hb.one
 generalize fileE (L.map RM.d) b=O at*
 have HR:=Lib.hid hR
 have hbD:=Below.allocW w (.cells #[.slice A L.length c] 26) (Nat.le_refl _)
 have HBD:=Lib.hid hbD
 clear hR h hb ok sm hv hbD
 go_enter Tryd.func86,Tryd.ntmps86
 go_wp2_with fail
 refine (HR.out _ HBD.out).mono ?_
 rintro e5 w5 ⟨n',B1,m1',d1,B2,m2',d2,next,code,rfl,hrk,bel⟩
 have HF:=Lib.hid ((below_step bel HBD.out).alloc (below_step bel HBD.out).size (.cells #[.int .i64 n', .slice B1 m1' d1, .slice B2 m2' d2] 29))
 cases O with
 |none=>
  have hcode:code≠0:=hrk
  have hce:(code==0)=false:=by simp [hcode]
  clear bel hrk hcode
  go_wp2
  go_ret
  exact ⟨rfl,HF.out⟩
 |some y=>
  obtain ⟨n2,c2',e2⟩:=y
  obtain ⟨h1',h2',h3',h4'⟩:=hrk
  subst h4'
  clear bel h1' h2' h3'
  go_wp2
  go_ret
  exact ⟨rfl,HF.out⟩
end Go.Proofs.YteldgdelmaeokaaDoor
