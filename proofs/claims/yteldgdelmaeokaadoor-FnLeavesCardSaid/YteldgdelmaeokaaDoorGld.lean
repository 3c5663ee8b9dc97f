/- The walk of l11Items: the items of a part read one behind the other. Conditions: the arguments read; reading the items' rules answers as rdE says. -/
import Derived.Test.YteldgdelmaeokaaDoorGlc
import Derived.Test.YteldgdelmaeokaaDoorGf
import Derived.Test.YteldgdelmaeokaaDoorGla
set_option linter.unusedSimpArgs false
set_option linter.unusedVariables false
namespace Go.Proofs.YteldgdelmaeokaaDoor
open Go.RowKit
def RdC (L:List RM) (k:Nat):Prop:=∀(f:Nat),k < f→∀(vD vb:Value) (b:List UInt8) (i B:Nat) (w:World),SlD w B vD L→SlB w B vb b→B≤w.heap.size→i≤b.length→b.length≤400→
 Calls Tryd.prog 104 #[.agg #[vD], .int .i64 k,vb, .int .i64 i] w (RdR (rdE (L.map RM.d) b f k i) w)
def gE (D:List RuleD) (b:List UInt8) (f:Nat) (q:Int) (p:Nat):Option Nat:=(rdE D b f q p).map fun x=> x.2.2
theorem gE_le {D:List RuleD} {b:List UInt8} {f:Nat} (q:Int) (p e:Nat) (h:gE D b f q p=some e) (hp:p≤b.length):p≤e∧e≤b.length:=by
 unfold gE at h
 simp only [Option.map_eq_some_iff] at h
 obtain ⟨⟨n2,c2,e2⟩,h5,rfl⟩:=h
 exact rdE_le f q p n2 c2 e2 h5 hp
theorem itE_none {g:Int→Nat→Option Nat} {r:RuleD} {n:Int} {i m:Nat} (h:itE g (itR r n m) i=none):∀d,itE g (itR r n (m+d)) i=none
 |0=> h
 |d+1=> by rw [←Nat.add_assoc,itR_succ,itE_snoc,itE_none h d]
theorem one3 {n:Int} {A1 A2:Option Addr} {m1 c1 m2 c2:Nat}:∀u∈ [Value.int .i64 n, .slice A1 m1 c1, .slice A2 m2 c2],u.oneCell'=true:=by
 intro u hu
 simp only [List.mem_cons,List.not_mem_nil,or_false] at hu
 rcases hu with rfl|rfl|rfl <;> rfl
theorem own_keepG {w w':World} {base:Nat} {e:TypeId} {size:Nat} {v:Value} {n:Nat} {xs:List Value} (h:w.ownsRow base e size v n xs) (hb:∀g,base≤g→w'.heap[g]?=w.heap[g]?):w'.ownsRow base e size v n xs:=by
 refine ⟨h.1,?_⟩
 rcases h.2 with hn|⟨g,cap,cur,rfl,hbb,hg,rest⟩
 ·exact .inl hn
 ·exact .inr ⟨g,cap,cur,rfl,hbb,by rw [hb g hbb];exact hg,rest⟩
set_option maxHeartbeats 8000000 in
set_option maxRecDepth 100000 in
theorem l11Items_any (L:List RM) (sm:∀r∈L,r.d.small 1048576) (hv:validD (L.map RM.d)=true) (k:Nat) (hk:k < L.length) (ih:∀q,q < k→RdC L q) (f:Nat) (hf:k≤f) (vD vb:Value) (b:List UInt8) (n:Int) (cnt i B:Nat) (w:World)
  (h:SlD w B vD L) (hb:SlB w B vb b) (hB:B≤w.heap.size) (hi:i≤b.length) (hl:b.length≤400) (hc4:cnt≤255) (hit:∀j,j < cnt→∃q:Nat,itemR L[k].d n j=q∧q < k):
  Calls Tryd.prog 117 #[.agg #[vD],rmV L[k], .int .i64 n, .int .i64 cnt,vb, .int .i64 i] w (RdR ((itE (gE (L.map RM.d) b f) (itR L[k].d n cnt) i).map fun x=> (0,cnt,x)) w):=by
 obtain ⟨i0,hi',hz0,hz1,hz2⟩:=info_parts Tryd.info_value
 have hlm:(L.map RM.d).length=L.length:=List.length_map ..
 have hkind:=ruleOk_kind (validD_at hv (k:=k) (by rw [hlm];exact hk))
 rw [List.getElem_map] at hkind
 have hIT:∀(j:Nat),j < cnt→∀W,Below w.heap.size w W→Calls Tryd.prog 39 #[rmV L[k], .int .i64 n, .int .i64 j] W fun e w'=> e= .returned (.int .i64 (itemR L[k].d n j))∧Below W.heap.size W w':=fun j hj W hw=>
  l9Item_any (L.map RM.d) L[k] n j B W ((h.2 _ (List.getElem_mem hk)).below (hw.mono hB)) (by have:=hw.size;omega) hkind (sm _ (List.getElem_mem hk)) (by omega)
 have hRD:∀q,q < k→∀p,p≤b.length→∀W,Below w.heap.size w W→Calls Tryd.prog 104 #[.agg #[vD], .int .i64 q,vb, .int .i64 p] W (RdR (rdE (L.map RM.d) b f q p) W):=fun q hq p hp W hw=>
  ih q hq f (by omega) vD vb b p B W (h.below (hw.mono hB)) (hb.below (hw.mono hB)) (by have:=hw.size;omega) hp hl
 obtain ⟨A,c,rfl,hc,hm, -⟩:=h.open_
 obtain ⟨Ab,cb,rfl,hcb,hmb, -⟩:=hb.open_
 obtain ⟨b0,off,A1,c1,A2,c2,A3,c3,A4,c4, -, -,e1,e2,e3,e4,m1,m2,m3,m4, -⟩:=rule_cells h k hk
 unfold rmV at hIT ⊢
 rw [e1,e2,e3,e4] at hIT ⊢
 have HIT:=Lib.hid hIT
 have HRD:=Lib.hid hRD
 have HQ:=Lib.hid hit
 obtain ⟨O,hO⟩:∃O,O=(itE (gE (L.map RM.d) b f) (itR L[k].d n cnt) i).map fun x=> ((0:Int),cnt,x):=⟨_,rfl⟩
 rw [←hO]
 have HOE:=Lib.hid hO
 clear hO hIT hRD hit h hb ih sm hv hlm hkind e1 e2 e3 e4
 unfold maxLen at hm hmb
 obtain ⟨W0,hW0⟩:∃W0,W0=((w.alloc (.cells #[.slice A L.length c] 26)).alloc (.cells #[.string L[k].d.name, .int .i64 L[k].d.kind, .int .i64 L[k].d.size, .bool L[k].d.little, .slice A1 L[k].d.bytes.length c1, .slice A2 L[k].d.names.length c2, .slice A3 L[k].d.tags.length c3, .slice A4 L[k].d.kids.length c4] 73)).alloc (.cells #[.int .i64 0, .slice none 0 0, .slice none 0 0] 29):=⟨_,rfl⟩
 have hb0:Below w.heap.size w W0:=by rw [hW0];exact (((Below.refl w.heap.size w).alloc (Nat.le_refl _) _).alloc (by simp) _).alloc (by simp;omega) _
 have Kd:Blk W0 w.heap.size 26 #[.slice A L.length c]:=by rw [hW0];exact ((Blk.new w _ _).alloc _).alloc _
 have Kr:Blk W0 (w.heap.size+1) 73 #[.string L[k].d.name, .int .i64 L[k].d.kind, .int .i64 L[k].d.size, .bool L[k].d.little, .slice A1 L[k].d.bytes.length c1, .slice A2 L[k].d.names.length c2, .slice A3 L[k].d.tags.length c3, .slice A4 L[k].d.kids.length c4]:=by
  rw [hW0]
  refine Blk.alloc ?_ _
  have:=Blk.new (w.alloc (.cells #[.slice A L.length c] 26)) 73 #[.string L[k].d.name, .int .i64 L[k].d.kind, .int .i64 L[k].d.size, .bool L[k].d.little, .slice A1 L[k].d.bytes.length c1, .slice A2 L[k].d.names.length c2, .slice A3 L[k].d.tags.length c3, .slice A4 L[k].d.kids.length c4]
  simpa using this
 have Kv:Blk W0 (w.heap.size+2) 29 #[.int .i64 0, .slice none 0 0, .slice none 0 0]:=by
  rw [hW0]
  have:=Blk.new ((w.alloc (.cells #[.slice A L.length c] 26)).alloc (.cells #[.string L[k].d.name, .int .i64 L[k].d.kind, .int .i64 L[k].d.size, .bool L[k].d.little, .slice A1 L[k].d.bytes.length c1, .slice A2 L[k].d.names.length c2, .slice A3 L[k].d.tags.length c3, .slice A4 L[k].d.kids.length c4] 73)) 29 #[.int .i64 0, .slice none 0 0, .slice none 0 0]
  simpa using this
 have hz0':w.heap.size+2 < W0.heap.size:=Kv.lt
 go_enter Tryd.func117,Tryd.ntmps117
 go_upto_region 1 with fail
 rw [←hW0]
 clear hW0
 obtain ⟨W1,hW1⟩:∃W1,W1=W0.alloc (.cells #[.int .i64 0, .slice none 0 0, .slice none 0 0] 29):=⟨_,rfl⟩
 have h01:Below W0.heap.size W0 W1:=by rw [hW1];exact (Below.refl _ _).alloc (Nat.le_refl _) _
 have Kx:Blk W1 W0.heap.size 29 #[.int .i64 0, .slice none 0 0, .slice none 0 0]:=by rw [hW1];exact Blk.new W0 _ _
 have H1:=Lib.hid (And.intro (below_step h01 hb0) (And.intro Kx h01))
 have HK:=Lib.hid (And.intro Kd (And.intro Kr Kv))
 have HB0:=Lib.hid hb0
 clear Kd Kr Kv h01 Kx hb0
 go_upto_region 2 with fail
 rw [←hW1]
 clear hW1
 have hz1':W0.heap.size < W1.heap.size:=H1.out.2.1.lt
 go_wp2
 go_loopw [5,16] (fun pv jv wr=> ∃(j p:Nat) (Ai:Option Addr) (ci:Nat) (xs:List Value),j≤cnt∧jv= .int .i64 j∧pv= .int .i64 p∧p≤b.length∧Hid (itE (gE (L.map RM.d) b f) (itR L[k].d n j) i=some p)∧Blk wr W0.heap.size 29 #[.int .i64 0, .slice none 0 0, .slice Ai j ci]∧wr.ownsRow (W0.heap.size+1) 29 3 (.slice Ai j ci) j xs∧Below W0.heap.size W0 wr) (fun _ jv _=> cnt - (intOf jv).toNat)
 case atStart=> exact ⟨0,i,none,0, [],Nat.zero_le _,rfl,rfl,hi,Lib.hid rfl,H1.out.2.1,⟨rfl, .inl ⟨rfl,rfl⟩⟩,H1.out.2.2⟩
 case round=>
  obtain ⟨j,p,Ai,ci,xs,hj,rfl,rfl,hp,HP,hkx,hown,hbl⟩:=hrel
  have hsz:=hbl.size
  have bw:Below w.heap.size w wr:=below_step hbl HB0.out
  have s0:wr.cell? ⟨w.heap.size,0,none⟩=some (.slice A L.length c):=(HK.out.1.below hbl).cell 0 rfl
  obtain ⟨⟨t0,t1,t2,t3,t4,t5,t6,t7⟩, -⟩:=(HK.out.2.1.below hbl).c8
  obtain ⟨⟨q0,q1,q2⟩,g0,g1,g2⟩:=(HK.out.2.2.below hbl).c3
  obtain ⟨⟨x0,x1,x2⟩,f0,f1,f2⟩:=hkx.c3
  have HB:=Lib.hid (And.intro hbl (And.intro bw (And.intro hkx hown)))
  clear hbl bw hkx hown
  have hzx:W0.heap.size < wr.heap.size:=HB.out.2.2.1.lt
  by_cases hlt:j < cnt
  ·obtain ⟨q,hq,hqk⟩:=HQ.out j hlt
   have hI:=HIT.out j hlt
   rw [hq] at hI
   have hR:=HRD.out q hqk p hp
   have HI:=Lib.hid hI
   have HR:=Lib.hid hR
   have HSN:=Lib.hid (show itE (gE (L.map RM.d) b f) (itR L[k].d n (j+1)) i=gE (L.map RM.d) b f q p by rw [itR_succ,itE_snoc,HP.out,hq])
   have HGE:=Lib.hid (show gE (L.map RM.d) b f q p=(rdE (L.map RM.d) b f q p).map fun x=> x.2.2 from rfl)
   have HGL:=Lib.hid (fun e (h:gE (L.map RM.d) b f q p=some e)=> gE_le (b:=b) (q:Int) p e h hp)
   clear hI hR hq
   generalize rdE (L.map RM.d) b f q p=R at*
   generalize gE (L.map RM.d) b f q p=G at*
   go_upto_region 5 with fail
   go_cut [17,18,19] (fun s17 s18 s19 wx=> ∃(g:Nat) (n':Int) (B1:Option Addr) (m1' d1:Nat) (B2:Option Addr) (m2' d2:Nat) (next code:Int),s17= .pointer (some ⟨g,0,none⟩)∧s18= .int .i64 next∧s19= .int .i64 code∧Blk wx g 29 #[.int .i64 n', .slice B1 m1' d1, .slice B2 m2' d2]∧Hid (rdK R n' m2' next code)∧wr.heap.size≤g∧Below wr.heap.size wr wx)
   case first=>
    have bq:=(Below.refl wr.heap.size wr).drew
    go_wp2_with fail
    refine wp_region_held_drew (S:=(fun w9=> w9.cell? ⟨w.heap.size,0,none⟩=some (.slice A L.length c)∧w9.cell? ⟨w.heap.size+1,0,none⟩=some (.string L[k].d.name)∧w9.cell? ⟨w.heap.size+1,1,none⟩=some (.int .i64 L[k].d.kind)∧w9.cell? ⟨w.heap.size+1,2,none⟩=some (.int .i64 L[k].d.size)∧w9.cell? ⟨w.heap.size+1,3,none⟩=some (.bool L[k].d.little)∧w9.cell? ⟨w.heap.size+1,4,none⟩=some (.slice A1 L[k].d.bytes.length c1)∧w9.cell? ⟨w.heap.size+1,5,none⟩=some (.slice A2 L[k].d.names.length c2)∧w9.cell? ⟨w.heap.size+1,6,none⟩=some (.slice A3 L[k].d.tags.length c3)∧w9.cell? ⟨w.heap.size+1,7,none⟩=some (.slice A4 L[k].d.kids.length c4))) (by kernel_rfl) ?_ (fun hHeld=> ?_)
    ·(try dsimp only);exact ⟨s0,t0,t1,t2,t3,t4,t5,t6,t7⟩
    refine rgTake 0 (some 27) hHeld _ ?_;try go_frame
    refine rgTake 1 (some 28) hHeld _ ?_;try go_frame
    refine rgTake 2 (some 29) hHeld _ ?_;try go_frame
    refine rgTake 3 (some 30) hHeld _ ?_;try go_frame
    refine rgTake 5 (some 32) hHeld _ ?_;try go_frame
    refine rgTake 6 (some 33) hHeld _ ?_;try go_frame
    refine rgTwo 4 12 (fun K hK=> ?_) (fun K hK=> ?_)
    ·go_simp
     refine (HI.out _ (below_step bq HB.out.2.1)).mono ?_;rintro e wq ⟨rfl,bel⟩;have bq:=below_step bel bq;(try have zB:=zB.below bel)
     (try go_wp2_with fail)
     refine hK.out _ _ ?_ (fun hHeld=> ?_)
     ·(try dsimp only);exact ⟨cell_later bq s0,cell_later bq t0,cell_later bq t1,cell_later bq t2,cell_later bq t3,cell_later bq t4,cell_later bq t5,cell_later bq t6,cell_later bq t7⟩
     clear hK K
     try go_frame
     refine rgTwo 7 12 (fun K hK=> ?_) (fun K hK=> ?_)
     ·go_simp
      refine (HR.out _ (below_step bq HB.out.2.1)).mono ?_;rintro e wq ⟨n',B1,m1',d1,B2,m2',d2,next,code,rfl,hrk,bel⟩;have hRK:=Lib.hid hrk;clear hrk;have bq:=below_step bel bq;(try have zB:=zB.below bel)
      (try go_wp2_with fail)
      refine hK.out _ _ ?_ (fun hHeld=> ?_)
      ·(try dsimp only);exact ⟨cell_later bq s0,cell_later bq t0,cell_later bq t1,cell_later bq t2,cell_later bq t3,cell_later bq t4,cell_later bq t5,cell_later bq t6,cell_later bq t7⟩
      clear hK K
      try go_frame
      refine rgTake 8 (some 26) hHeld _ ?_;try go_frame
      refine rgTake 9 (some 35) hHeld _ ?_;try go_frame
      refine rgTake 10 (some 36) hHeld _ ?_;try go_frame
      refine rgTake 11 (some 37) hHeld _ ?_;try go_frame
      refine rgStep 12 (fun K hK=> ?_)
      (try go_simp)
      have hge:=bq.size;first|(have zB:=Blk.new wq 29 #[.int .i64 0, .slice none 0 0, .slice none 0 0];have bq:=bq.alloc bq.size (.cells #[.int .i64 0, .slice none 0 0, .slice none 0 0] 29);generalize wq.alloc (.cells #[.int .i64 0, .slice none 0 0, .slice none 0 0] 29)=wa at*)|(have zB:Blk (wr.alloc (.cells #[.int .i64 0, .slice none 0 0, .slice none 0 0] 29)).drew wr.heap.size 29 #[.int .i64 0, .slice none 0 0, .slice none 0 0]:=Blk.new wr _ _;have bq:Below wr.heap.size wr (wr.alloc (.cells #[.int .i64 0, .slice none 0 0, .slice none 0 0] 29)).drew:=((Below.refl wr.heap.size wr).alloc (Nat.le_refl _) _).drew;generalize (wr.alloc (.cells #[.int .i64 0, .slice none 0 0, .slice none 0 0] 29)).drew=wa at*)
      refine hK.out _ _ ?_ (fun hHeld=> ?_)
      ·(try dsimp only);exact ⟨cell_later bq s0,cell_later bq t0,cell_later bq t1,cell_later bq t2,cell_later bq t3,cell_later bq t4,cell_later bq t5,cell_later bq t6,cell_later bq t7⟩
      clear hK K
      try go_frame
      refine rgStep 13 (fun K hK=> ?_)
      (try go_simp)
      have bq:=below_put3 bq hge (.int .i64 n') (.slice B1 m1' d1) (.slice B2 m2' d2);obtain ⟨⟨z0,z1,z2⟩,y0,y1,y2⟩:=zB.c3;go_simp;have zB:=zB.put3 (.int .i64 n') (.slice B1 m1' d1) (.slice B2 m2' d2)
      refine hK.out _ _ ?_ (fun hHeld=> ?_)
      ·(try dsimp only);exact ⟨cell_later bq s0,cell_later bq t0,cell_later bq t1,cell_later bq t2,cell_later bq t3,cell_later bq t4,cell_later bq t5,cell_later bq t6,cell_later bq t7⟩
      clear hK K
      try go_frame
      refine rgTake 14 (some 18) hHeld _ ?_;try go_frame
      refine rgTake 15 (some 19) hHeld _ ?_;try go_frame
      refine wpAnyH_done (by kernel_rfl) ?_ _
      go_wp2_with fail
      go_meet
      exact ⟨_,n',B1,m1',d1,B2,m2',d2,next,code,rfl,rfl,rfl,zB,hRK,hge,bq⟩
     ·(try go_simp)
      have hge:=bq.size;first|(have zB:=Blk.new wq 29 #[.int .i64 0, .slice none 0 0, .slice none 0 0];have bq:=bq.alloc bq.size (.cells #[.int .i64 0, .slice none 0 0, .slice none 0 0] 29);generalize wq.alloc (.cells #[.int .i64 0, .slice none 0 0, .slice none 0 0] 29)=wa at*)|(have zB:Blk (wr.alloc (.cells #[.int .i64 0, .slice none 0 0, .slice none 0 0] 29)).drew wr.heap.size 29 #[.int .i64 0, .slice none 0 0, .slice none 0 0]:=Blk.new wr _ _;have bq:Below wr.heap.size wr (wr.alloc (.cells #[.int .i64 0, .slice none 0 0, .slice none 0 0] 29)).drew:=((Below.refl wr.heap.size wr).alloc (Nat.le_refl _) _).drew;generalize (wr.alloc (.cells #[.int .i64 0, .slice none 0 0, .slice none 0 0] 29)).drew=wa at*)
      refine hK.out _ _ ?_ (fun hHeld=> ?_)
      ·(try dsimp only);exact ⟨cell_later bq s0,cell_later bq t0,cell_later bq t1,cell_later bq t2,cell_later bq t3,cell_later bq t4,cell_later bq t5,cell_later bq t6,cell_later bq t7⟩
      clear hK K
      try go_frame
      refine rgStep 7 (fun K hK=> ?_)
      go_simp
      refine (HR.out _ (below_step bq HB.out.2.1)).mono ?_;rintro e wq ⟨n',B1,m1',d1,B2,m2',d2,next,code,rfl,hrk,bel⟩;have hRK:=Lib.hid hrk;clear hrk;have bq:=below_step bel bq;(try have zB:=zB.below bel)
      (try go_wp2_with fail)
      refine hK.out _ _ ?_ (fun hHeld=> ?_)
      ·(try dsimp only);exact ⟨cell_later bq s0,cell_later bq t0,cell_later bq t1,cell_later bq t2,cell_later bq t3,cell_later bq t4,cell_later bq t5,cell_later bq t6,cell_later bq t7⟩
      clear hK K
      try go_frame
      refine rgTake 8 (some 26) hHeld _ ?_;try go_frame
      refine rgTake 9 (some 35) hHeld _ ?_;try go_frame
      refine rgTake 10 (some 36) hHeld _ ?_;try go_frame
      refine rgTake 11 (some 37) hHeld _ ?_;try go_frame
      refine rgStep 13 (fun K hK=> ?_)
      (try go_simp)
      have bq:=below_put3 bq hge (.int .i64 n') (.slice B1 m1' d1) (.slice B2 m2' d2);obtain ⟨⟨z0,z1,z2⟩,y0,y1,y2⟩:=zB.c3;go_simp;have zB:=zB.put3 (.int .i64 n') (.slice B1 m1' d1) (.slice B2 m2' d2)
      refine hK.out _ _ ?_ (fun hHeld=> ?_)
      ·(try dsimp only);exact ⟨cell_later bq s0,cell_later bq t0,cell_later bq t1,cell_later bq t2,cell_later bq t3,cell_later bq t4,cell_later bq t5,cell_later bq t6,cell_later bq t7⟩
      clear hK K
      try go_frame
      refine rgTake 14 (some 18) hHeld _ ?_;try go_frame
      refine rgTake 15 (some 19) hHeld _ ?_;try go_frame
      refine wpAnyH_done (by kernel_rfl) ?_ _
      go_wp2_with fail
      go_meet
      exact ⟨_,n',B1,m1',d1,B2,m2',d2,next,code,rfl,rfl,rfl,zB,hRK,hge,bq⟩
    ·(try go_simp)
     have hge:=bq.size;first|(have zB:=Blk.new wq 29 #[.int .i64 0, .slice none 0 0, .slice none 0 0];have bq:=bq.alloc bq.size (.cells #[.int .i64 0, .slice none 0 0, .slice none 0 0] 29);generalize wq.alloc (.cells #[.int .i64 0, .slice none 0 0, .slice none 0 0] 29)=wa at*)|(have zB:Blk (wr.alloc (.cells #[.int .i64 0, .slice none 0 0, .slice none 0 0] 29)).drew wr.heap.size 29 #[.int .i64 0, .slice none 0 0, .slice none 0 0]:=Blk.new wr _ _;have bq:Below wr.heap.size wr (wr.alloc (.cells #[.int .i64 0, .slice none 0 0, .slice none 0 0] 29)).drew:=((Below.refl wr.heap.size wr).alloc (Nat.le_refl _) _).drew;generalize (wr.alloc (.cells #[.int .i64 0, .slice none 0 0, .slice none 0 0] 29)).drew=wa at*)
     refine hK.out _ _ ?_ (fun hHeld=> ?_)
     ·(try dsimp only);exact ⟨cell_later bq s0,cell_later bq t0,cell_later bq t1,cell_later bq t2,cell_later bq t3,cell_later bq t4,cell_later bq t5,cell_later bq t6,cell_later bq t7⟩
     clear hK K
     try go_frame
     refine rgStep 4 (fun K hK=> ?_)
     go_simp
     refine (HI.out _ (below_step bq HB.out.2.1)).mono ?_;rintro e wq ⟨rfl,bel⟩;have bq:=below_step bel bq;(try have zB:=zB.below bel)
     (try go_wp2_with fail)
     refine hK.out _ _ ?_ (fun hHeld=> ?_)
     ·(try dsimp only);exact ⟨cell_later bq s0,cell_later bq t0,cell_later bq t1,cell_later bq t2,cell_later bq t3,cell_later bq t4,cell_later bq t5,cell_later bq t6,cell_later bq t7⟩
     clear hK K
     try go_frame
     refine rgStep 7 (fun K hK=> ?_)
     go_simp
     refine (HR.out _ (below_step bq HB.out.2.1)).mono ?_;rintro e wq ⟨n',B1,m1',d1,B2,m2',d2,next,code,rfl,hrk,bel⟩;have hRK:=Lib.hid hrk;clear hrk;have bq:=below_step bel bq;(try have zB:=zB.below bel)
     (try go_wp2_with fail)
     refine hK.out _ _ ?_ (fun hHeld=> ?_)
     ·(try dsimp only);exact ⟨cell_later bq s0,cell_later bq t0,cell_later bq t1,cell_later bq t2,cell_later bq t3,cell_later bq t4,cell_later bq t5,cell_later bq t6,cell_later bq t7⟩
     clear hK K
     try go_frame
     refine rgTake 8 (some 26) hHeld _ ?_;try go_frame
     refine rgTake 9 (some 35) hHeld _ ?_;try go_frame
     refine rgTake 10 (some 36) hHeld _ ?_;try go_frame
     refine rgTake 11 (some 37) hHeld _ ?_;try go_frame
     refine rgStep 13 (fun K hK=> ?_)
     (try go_simp)
     have bq:=below_put3 bq hge (.int .i64 n') (.slice B1 m1' d1) (.slice B2 m2' d2);obtain ⟨⟨z0,z1,z2⟩,y0,y1,y2⟩:=zB.c3;go_simp;have zB:=zB.put3 (.int .i64 n') (.slice B1 m1' d1) (.slice B2 m2' d2)
     refine hK.out _ _ ?_ (fun hHeld=> ?_)
     ·(try dsimp only);exact ⟨cell_later bq s0,cell_later bq t0,cell_later bq t1,cell_later bq t2,cell_later bq t3,cell_later bq t4,cell_later bq t5,cell_later bq t6,cell_later bq t7⟩
     clear hK K
     try go_frame
     refine rgTake 14 (some 18) hHeld _ ?_;try go_frame
     refine rgTake 15 (some 19) hHeld _ ?_;try go_frame
     refine wpAnyH_done (by kernel_rfl) ?_ _
     go_wp2_with fail
     go_meet
     exact ⟨_,n',B1,m1',d1,B2,m2',d2,next,code,rfl,rfl,rfl,zB,hRK,hge,bq⟩
   case rest=>
    obtain ⟨g,n',B1,m1',d1,B2,m2',d2,next,code,rfl,rfl,rfl,zB,hRK,hge,bq⟩:=hcut
    obtain ⟨w5,hWc⟩:∃W9:World,W9=wc:=⟨_,rfl⟩
    subst hWc
    have hzq:=bq.size
    have bl:=below_step bq HB.out.1
    have bw:=below_step bq HB.out.2.1
    clear s0 t0 t1 t2 t3 t4 t5 t6 t7 q0 q1 q2 g0 g1 g2 x0 x1 x2 f0 f1 f2
    cases R with
    |none=>
     have hcode:code≠0:=hRK.out
     have hce:(code==0)=false:=by simp [hcode]
     have HO:Hid (O=none):=Lib.hid (by
      rw [HOE.out]
      have h1:=itE_none (HSN.out.trans HGE.out) (cnt - (j+1))
      rw [show j+1+(cnt - (j+1))=cnt by omega] at h1
      rw [h1]
      rfl)
     have Kq:=HK.out.2.2.below bl
     obtain ⟨⟨q0,q1,q2⟩,g0,g1,g2⟩:=Kq.c3
     obtain ⟨⟨z0,z1,z2⟩, -⟩:=(Kq.put3 (.int .i64 0) (.slice none 0 0) (.slice none 0 0)).c3
     have HF:=Lib.hid (And.intro (below_put3 bw (show w.heap.size≤w.heap.size+2 by omega) (.int .i64 0) (.slice none 0 0) (.slice none 0 0)) hcode)
     clear bl bw bq zB Kq hcode
     go_wp2
     exact bodyPost_ret (v:= .tuple #[.agg #[.int .i64 0, .slice none 0 0, .slice none 0 0], .int .i64 next, .int .i64 code]) (by simp [results,Tryd.results117,go_sem,z0,z1,z2]) rfl ⟨0,none,0,0,none,0,0,next,code,rfl,by rw [HO.out];exact HF.out.2,HF.out.1⟩
    |some y=>
     obtain ⟨n2,c2',e2⟩:=y
     obtain ⟨h1,h2,h3,h4⟩:=hRK.out
     subst h3 h4
     have HG2:=Lib.hid (HGE.out:G=some e2)
     have he2:=HGL.out e2 HG2.out
     have kx:=HB.out.2.2.1.below bq
     obtain ⟨⟨x0,x1,x2⟩,f0,f1,f2⟩:=kx.c3
     obtain ⟨⟨z0,z1,z2⟩, -⟩:=zB.c3
     have OWN:=Lib.hid (own_below HB.out.2.2.2 bq (Nat.le_refl _))
     have HKX:=Lib.hid (And.intro kx bl)
     have hlt5:=kx.lt
     have hgl:=zB.lt
     clear h1 h2 hRK kx bl bw bq zB HGE
     go_wp2_with (at_builtin;refine wpList_app _ rfl (.tmp 44) (.tmp 46) 27 rfl (W0.heap.size+1) 29 i0 (.agg #[.int .i64 0, .slice none 0 0, .slice none 0 0]) 3 56 Tryd.underlying27 hi' hz0 hz1 hz2 rfl (by decide) _ j xs rfl (own_below OWN.out ((Below.refl _ _).alloc (Nat.le_refl _) _) (Nat.le_refl _)) _ 1 _ [.int .i64 n', .slice B1 m1' d1, .slice B2 m2' d2] rfl (blk_sl1 (xs:= [.int .i64 n', .slice B1 m1' d1, .slice B2 m2' d2]) (Blk.new _ _ _) rfl (Nat.lt_succ_self _)) one3 (by omega) (by unfold maxLen;omega) (by simp;omega) ?_;intro v2 w2 own2 hg2 hv2;obtain ⟨A9,c9,rfl⟩:=own_slice own2;have hlt3:=OWN.out.lt;have kx2:=Blk.row (HKX.out.1.alloc _) hg2 (fun e=> by have:=(hlt3 _ e).1;omega);have hbf:Below W0.heap.size W0 w2:=(HKX.out.2.alloc HKX.out.2.size _).grown hg2 (by simp;omega) (fun q e=> by have:=(hlt3 q e).1;omega);obtain ⟨⟨x0,x1,x2⟩,f0,f1,f2⟩:=kx2.c3;have H2:=Lib.hid (And.intro own2 (And.intro kx2 hbf));clear own2 hg2 hv2 kx2 hbf hlt3)
     have H3:=Lib.hid (And.intro (H2.out.2.1.set 2 (.slice A9 (j+1) c9)) (And.intro (own_keepG H2.out.1 (w':=w2.setCell ⟨W0.heap.size,2,none⟩ (.slice A9 (j+1) c9)) fun q hq=> Below.heap_setCell _ _ _ q (by show q≠W0.heap.size;omega)) (H2.out.2.2.setCell (p:=⟨W0.heap.size,2,none⟩) (Nat.le_refl _) (.slice A9 (j+1) c9))))
     go_wp2
     go_roundw
     case rel=> exact ⟨j+1,e2,A9,c9,_,by omega,by go_num,rfl,he2.2,Lib.hid (HSN.out.trans HG2.out),H3.out.1,H3.out.2.1,H3.out.2.2⟩
     case measure=> simp [intOf];omega
  ·obtain rfl:j=cnt:=by omega
   have HO:Hid (O=some (0,j,p)):=Lib.hid (by rw [HOE.out,HP.out];rfl)
   have Kq:=HK.out.2.2.below HB.out.1
   obtain ⟨⟨z0,z1,z2⟩, -⟩:=(Kq.put3 (.int .i64 0) (.slice none 0 0) (.slice Ai j ci)).c3
   have HF:=Lib.hid (below_put3 HB.out.2.1 (show w.heap.size≤w.heap.size+2 by omega) (.int .i64 0) (.slice none 0 0) (.slice Ai j ci))
   clear Kq s0 t0 t1 t2 t3 t4 t5 t6 t7
   go_wp2
   exact bodyPost_ret (v:= .tuple #[.agg #[.int .i64 0, .slice none 0 0, .slice Ai j ci], .int .i64 p, .int .i64 0]) (by simp [results,Tryd.results117,go_sem,z0,z1,z2]) rfl ⟨0,none,0,0,Ai,j,ci,p,0,rfl,by rw [HO.out];exact ⟨rfl,rfl,rfl,rfl⟩,HF.out⟩
end Go.Proofs.YteldgdelmaeokaaDoor
