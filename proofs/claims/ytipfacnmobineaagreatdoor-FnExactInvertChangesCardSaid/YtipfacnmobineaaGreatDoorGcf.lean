/- Out of ChgRow, ValNs: the walks and plain laws that the claim needs. No condition but those that each theorem names. -/
import Derived.Test.YtipfacnmobineaaGreatDoorGca
import Derived.Test.YtipfacnmobineaaGreatDoorGb
import Derived.Test.YtipfacnmobineaaGreatDoorGcc
import Derived.Test.YtipfacnmobineaaGreatDoorGv
import Derived.Test.YtipfacnmobineaaGreatDoorGrc
import Derived.WalkSpells
import Derived.WalkLawsBesides
import Derived.Deep.RegionHeld3
import Derived.Deep.CutRange
set_option linter.unusedSimpArgs false
set_option linter.unusedVariables false
namespace Go.Proofs.YtipfacnmobineaaGreatDoor
open Go.RowKit
theorem own_lit4 {W:World} {a b c d:Value} {T:TypeId} {base g:Nat} (hg:g=W.heap.size) (hb:base≤g):(W.alloc (.cells #[a,b,c,d] T)).ownsRow base T 4 (.slice (some ⟨g,0,none⟩) 1 1) 1 [a,b,c,d]:=by
 subst hg
 exact ⟨by simp, .inr ⟨W.heap.size,1, #[a,b,c,d],rfl,hb,heap_alloc_new W _,Nat.le_refl _,by unfold maxLen;omega,by simp,by simp⟩⟩
theorem one_of_chg {lo:Nat} {w:World} {c:CM} (h:c.part.own lo w):∀u∈cmCells c,u.oneCell'=true:=by
 obtain ⟨A,n,e1⟩:=own_slice h.bytes
 obtain ⟨A',n',e2⟩:=own_slice h.row
 unfold cmCells
 rw [e1,e2]
 intro u hu
 simp only [List.mem_cons,List.not_mem_nil,or_false] at hu
 rcases hu with rfl|rfl|rfl|rfl <;> rfl
theorem OwC.nil {W:World} {base hi g:Nat} (hg:g=W.heap.size) (hb:base≤g) (hh:g < hi):OwC [] base hi (W.alloc (.cells #[] 58)) (.slice (some ⟨g,0,none⟩) 0 0):=by
 refine ⟨[],rfl,own_empty_at hg hb,fun x hx=> by simp at hx,?_,?_⟩
 ·simp [VM.bkss_nil,Value.ownBlock]
 ·intro q hq
  simp [VM.bkss_nil,Value.ownBlock] at hq
  omega
end Go.Proofs.YtipfacnmobineaaGreatDoor
namespace Go.Proofs.YtipfacnmobineaaGreatDoor
open Go.RowKit
set_option maxHeartbeats 4000000 in
set_option maxRecDepth 100000 in
theorem specInvert_any (vD:Value) (l:List RM) (x:VM) (vC:Value) (lc:List CM) (B:Nat) (w:World) (h:SlD w B vD l) (hB:B≤w.heap.size) (ok:∀r∈l,r.d.ok) (sm:∀r∈l,r.d.small 1048576) (hx:x.rd w B) (hC:SlC w B vC lc) (hs:x.d.size+chSizes (lc.map CM.d)≤2097152):
  Calls Tryz.prog 21 #[.agg #[vD],vmV x,vC] w (Made (OwC (invV (l.map RM.d) (lc.map CM.d) x.d [])) w):=by
 obtain ⟨i0,hi,hz0',hz1',hz2'⟩:=info_parts Tryz.info_change
 have hcs:=chSizes_length (lc.map CM.d)
 rw [List.length_map] at hcs
 have hlc:lc.length≤2097152:=by omega
 clear hcs
 have hR:∀(y:VM) (c:CM) (wr W:World),c∈lc→Below w.heap.size w wr→Below wr.heap.size wr W→y.rd wr wr.heap.size→y.d.size≤4194304→
   Calls Tryz.prog 33 #[.agg #[vD],vmV y, .string c.path,vmV c.part] W (Made2 (OwV (chgV (l.map RM.d) y.d c.d).1) (.bool (chgV (l.map RM.d) y.d c.d).2) W):=fun y c wr W hc hb hb2 hy hys=> by
  have h1:=chSizes_mem (List.mem_map_of_mem (f:=CM.d) hc)
  unfold ChD.size at h1
  rw [CM.d_part,CM.d_path] at h1
  exact specRep_any vD l y c.part c.path wr.heap.size W ((h.below ((below_step hb2 hb).mono hB)).more (by have:=hb.size;omega)) hb2.size ok sm (hy.bel hb2) hys (((hC.2 c hc).bel ((below_step hb2 hb).mono hB)).more (by have:=hb.size;omega)) (by omega) (by omega)
 have hF:∀(y:VM) (c:CM) (wr W:World),c∈lc→Below w.heap.size w wr→Below wr.heap.size wr W→y.rd wr wr.heap.size→y.d.size≤4194304→
   Calls Tryz.prog 48 #[.agg #[vD],vmV y, .string c.path] W (FindE (findV (l.map RM.d) y.d (spOk isStep c.path) (spL isStep c.path)) W):=fun y c wr W hc hb hb2 hy hys=> by
  have h1:=chSizes_mem (List.mem_map_of_mem (f:=CM.d) hc)
  unfold ChD.size at h1
  rw [CM.d_part,CM.d_path] at h1
  exact specFind_any vD l y c.path wr.heap.size W ((h.below ((below_step hb2 hb).mono hB)).more (by have:=hb.size;omega)) hb2.size ok sm (hy.bel hb2) hys (by omega)
 have hCP:∀W,Below w.heap.size w W→Calls Tryz.prog 32 #[vmV x] W (Made (OwV x.d) W):=fun W hb=>
  specCopy_any x B W (hx.bel (hb.mono hB)) (by have:=hb.size;omega) (by omega)
 have hC2:=hC.2
 obtain ⟨A,c,rfl, -, -, -⟩:=h.open_
 obtain ⟨Ac,cc,rfl,hcc,hcm,hcell⟩:=hC.open_
 obtain ⟨Ax,cx,ex, -⟩:=hx.bytes.open_
 obtain ⟨Ay,cy,ey, -⟩:=hx.its.open_
 unfold vmV at hCP ⊢
 rw [ex,ey] at hCP ⊢
 obtain ⟨L,hL⟩:∃L,L=lc.map CM.d:=⟨_,rfl⟩
 have hLl:L.length=lc.length:=by rw [hL,List.length_map]
 have hLa:∀k (hk:k < lc.length),L.drop k=lc[k].d::L.drop (k+1):=fun k hk=> by
  rw [List.drop_eq_getElem_cons (by rw [hLl];exact hk)]
  simp [hL]
 rw [←hL] at hs ⊢
 obtain ⟨FX,hFX⟩:∃a,invV (l.map RM.d) L x.d []=a:=⟨_,rfl⟩
 rw [hFX]
 generalize l.map RM.d=D at*
 have HR:=Lib.hid hR
 have HFP:=Lib.hid hF
 have HCP:=Lib.hid hCP
 have HLA:=Lib.hid hLa
 have HLl:=Lib.hid hLl
 have HI:=Lib.hid (And.intro hi (And.intro hz0' (And.intro hz1' hz2')))
 have HF:=Lib.hid (show invV D (L.drop 0) x.d []=FX∧x.d.size+chSizes (L.drop 0)≤2097152 from ⟨by rw [List.drop_zero];exact hFX,by rw [List.drop_zero];exact hs⟩)
 have HCE:=Lib.hid (And.intro hcell hC2)
 clear hR hF hCP h hx hC hs ok sm ex ey hLa hLl hFX hcell hC2 hL hi hz0' hz1' hz2'
 unfold maxLen at hcm
 have hn:lc.length≤cc:=by omega
 generalize x.d=X at*
 obtain ⟨W0,hW0⟩:∃W0,W0=(((w.alloc (.cells #[.slice A l.length c] 40)).alloc (.cells #[.int .i64 x.n, .slice Ax x.b.length cx, .slice Ay x.items.length cy] 35)).alloc (.cells #[] 58)):=⟨_,rfl⟩
 have hb0:Below w.heap.size w W0:=by rw [hW0];exact (((Below.refl w.heap.size w).alloc (Nat.le_refl _) _).alloc (by simp) _).alloc (by simp;omega) _
 have hz0:W0.heap.size=w.heap.size+3:=by rw [hW0];simp
 have s0:W0.cell? ⟨w.heap.size,0,none⟩=some (.slice A l.length c):=by rw [hW0];simp [go_sem]
 have v0:W0.cell? ⟨w.heap.size+1,0,none⟩=some (.int .i64 x.n):=by rw [hW0];simp [go_sem]
 have v1:W0.cell? ⟨w.heap.size+1,1,none⟩=some (.slice Ax x.b.length cx):=by rw [hW0];simp [go_sem]
 have v2:W0.cell? ⟨w.heap.size+1,2,none⟩=some (.slice Ay x.items.length cy):=by rw [hW0];simp [go_sem]
 have hA0:OwC [] w.heap.size (w.heap.size+3) W0 (.slice (some ⟨w.heap.size+1+1,0,none⟩) 0 0):=by rw [hW0];exact OwC.nil (by simp) (by omega) (by omega)
 generalize l.length=nl at*
 go_enter Tryz.func21,Tryz.ntmps21
 go_upto_region 2 with fail
 rw [←hW0]
 clear hW0
 go_wp2_with fail
 refine (HCP.out _ hb0).mono ?_
 rintro e w1 ⟨v,rfl,ho,bel⟩
 obtain ⟨A1,c1,A2,c2,rfl⟩:=ho.agg
 obtain ⟨W2,hW2⟩:∃W2,W2=w1.alloc (.cells #[.int .i64 X.n, .slice A1 X.b.length c1, .slice A2 X.items.length c2] 35):=⟨_,rfl⟩
 have h12:Below w1.heap.size w1 W2:=by rw [hW2];exact (Below.refl _ _).alloc (Nat.le_refl _) _
 have b02:=bel.trans (h12.mono bel.size)
 have zB:B3 W2 w1.heap.size (.int .i64 X.n) (.slice A1 X.b.length c1) (.slice A2 X.items.length c2):=by rw [hW2];exact B3.new w1 _ _ _ _
 have ho2:=ho.bel h12
 have hz1:=bel.size
 obtain ⟨gO,hgO⟩:∃g,g=w1.heap.size:=⟨_,rfl⟩
 rw [←hgO] at zB
 have hg0:w.heap.size+3≤gO:=by omega
 have HS0:=Lib.hid s0
 have HB0:=Lib.hid hb0
 have h00:∃(Y:Val) (A1:Option Addr) (c1:Nat) (A2:Option Addr) (c2 lo hi la ha:Nat) (acc:List ChD),B3 W2 gO (.int .i64 Y.n) (.slice A1 Y.b.length c1) (.slice A2 Y.items.length c2)∧Hid (OwV Y lo hi W2 (.agg #[.int .i64 Y.n, .slice A1 Y.b.length c1, .slice A2 Y.items.length c2])∧(hi≤gO∨gO < lo)∧hi≤W2.heap.size∧OwC acc la ha W2 (.slice (some ⟨w.heap.size+1+1,0,none⟩) 0 0)∧((acc= []∧ha≤gO)∨gO < la)∧w.heap.size≤la∧ha≤W2.heap.size∧acc.length≤0∧invV D (L.drop 0) Y acc=FX∧Y.size+chSizes (L.drop 0)≤2097152)∧Below W0.heap.size W0 W2:=
  ⟨X,A1,c1,A2,c2,W0.heap.size,w1.heap.size,w.heap.size,w.heap.size+3, [],zB,Lib.hid ⟨ho2, .inl (by omega),h12.size,hA0.keep (Out.of_below b02 0 0) (.inr (Nat.zero_le _)), .inl ⟨rfl,hg0⟩,Nat.le_refl _,by have:=b02.size;omega,Nat.le_refl _,HF.out⟩,b02⟩
 clear ho bel h12 b02 zB ho2 hz1 s0 v0 v1 v2 hb0 HF HCP hA0
 go_upto_region 3 with fail
 rw [←hW2,←hgO]
 clear hW2 hgO
 go_wp2_with fail
 go_loopw [7,9] (fun o i wr=> ∃k:Nat,k≤lc.length∧i= .int .i64 k∧∃(Y:Val) (A1:Option Addr) (c1:Nat) (A2:Option Addr) (c2 lo hi la ha:Nat) (acc:List ChD),B3 wr gO (.int .i64 Y.n) (.slice A1 Y.b.length c1) (.slice A2 Y.items.length c2)∧Hid (OwV Y lo hi wr (.agg #[.int .i64 Y.n, .slice A1 Y.b.length c1, .slice A2 Y.items.length c2])∧(hi≤gO∨gO < lo)∧hi≤wr.heap.size∧OwC acc la ha wr o∧((acc= []∧ha≤gO)∨gO < la)∧w.heap.size≤la∧ha≤wr.heap.size∧acc.length≤k∧invV D (L.drop k) Y acc=FX∧Y.size+chSizes (L.drop k)≤2097152)∧Below W0.heap.size W0 wr) (fun _ i _=> lc.length - (intOf i).toNat)
 case atStart=> exact ⟨0,Nat.zero_le _,rfl,h00⟩
 case round=>
  clear h00
  obtain ⟨k,hk,rfl,Y,A1,c1,A2,c2,lo,hi,la,ha,acc,zB,HO,b0⟩:=hrel
  by_cases hlt:k < lc.length
  ·obtain ⟨b,off,hA,hbB,d0,d1,d2,d3⟩:=HCE.out.1 k hlt
   subst hA
   have hdr:=HLA.out k hlt
   have hmem:=List.getElem_mem hlt
   have hrk:=HCE.out.2 _ hmem
   generalize lc[k]=ck at*
   obtain ⟨Ap,cp,ep, -⟩:=hrk.bytes.open_
   obtain ⟨Aq,cq,eq, -⟩:=hrk.its.open_
   rw [ep] at d2
   rw [eq] at d3
   have bw:=HB0.out.trans (b0.mono HB0.out.size)
   have hbm:=bw.mono hB
   have d0:=(hbm.cell (p:=⟨b,off+k*4,none⟩) hbB).trans d0
   have d1:=(hbm.cell (p:=⟨b,off+k*4+1,none⟩) hbB).trans d1
   have d2:=(hbm.cell (p:=⟨b,off+k*4+2,none⟩) hbB).trans d2
   have d3:=(hbm.cell (p:=⟨b,off+k*4+3,none⟩) hbB).trans d3
   have s1:=cell_later b0 HS0.out
   have hzw:=b0.size
   obtain ⟨ho,hsep,hhi,hoa,hsa,hla,hha,hal,hap,hsz⟩:=HO.out
   obtain ⟨Ao,co,rfl⟩:=hoa.slice
   obtain ⟨y,hyd,hyv,hyr⟩:=ho.rd
   obtain ⟨EY,EB,hE⟩:∃a b,chgV D Y ck.d=(a,b):=⟨_,_,rfl⟩
   have hEs:=chgV_size D Y ck.d
   rw [hE] at hEs
   obtain ⟨OY,OI,OB,hOY⟩:∃a b c,findV D Y (spOk isStep ck.path) (spL isStep ck.path)=(a,b,c):=⟨_,_,_,rfl⟩
   have hold:oldV D Y ck.d=⟨ck.path,OY⟩:=by unfold oldV;rw [CM.d_path,hOY]
   have hCF:=fun W (hb:Below wr.heap.size wr W)=> HFP.out y ck wr W hmem bw hb hyr (by rw [hyd];omega)
   have hCR:=fun W (hb:Below wr.heap.size wr W)=> HR.out y ck wr W hmem bw hb hyr (by rw [hyd];omega)
   rw [hyd,hE,←hyv] at hCR
   rw [hyd,hOY,←hyv] at hCF
   unfold vmV at hCR
   rw [ep,eq] at hCR
   have HCR:=Lib.hid hCR
   have HCF:=Lib.hid hCF
   rw [hdr] at hap hsz
   have HE:=Lib.hid (And.intro hE (And.intro hap (And.intro hsz (And.intro hEs hold))))
   have HA:=Lib.hid (And.intro hoa (And.intro hsa (And.intro hla hha)))
   have o0:=zB.c0
   have o1:=zB.c1
   have o2:=zB.c2
   have HZ:=Lib.hid (And.intro zB b0)
   clear zB b0
   clear HO ho hsep hhi hap hsz hyd hyv hyr hE hEs hCR hCF hmem hrk ep eq bw hbm hdr HR HCE hOY hold hoa hsa hla hha
   go_upto_region 6 with fail
   go_cut [10] from 18 to 65 (fun s10 wx=> ∃(bq:Nat) (A1:Option Addr) (c1:Nat) (A2:Option Addr) (c2 lo hi:Nat),s10= .pointer (some ⟨bq,0,none⟩)∧B3 wx bq (.int .i64 OY.n) (.slice A1 OY.b.length c1) (.slice A2 OY.items.length c2)∧OwV OY lo hi wx (.agg #[.int .i64 OY.n, .slice A1 OY.b.length c1, .slice A2 OY.items.length c2])∧wr.heap.size≤lo∧hi≤wx.heap.size∧wr.heap.size≤bq∧Below wr.heap.size wr wx)
   case first=>
    have bq:=(Below.refl wr.heap.size wr).drew
    go_wp2_with fail
    refine wp_region_held_drew (S:=(fun w9=> w9.cell? ⟨w.heap.size,0,none⟩=some (.slice A nl c)∧w9.cell? ⟨gO,0,none⟩=some (.int .i64 Y.n)∧w9.cell? ⟨gO,1,none⟩=some (.slice A1 Y.b.length c1)∧w9.cell? ⟨gO,2,none⟩=some (.slice A2 Y.items.length c2)∧w9.cell? ⟨b,off+k*4,none⟩=some (.string ck.path))) (by kernel_rfl) ?_ (fun hHeld=> ?_)
    ·(try dsimp only);exact ⟨s1,o0,o1,o2,d0⟩
    refine rgTake 0 (some 25) hHeld _ ?_;try go_frame
    refine rgTake 1 (some 26) hHeld _ ?_;try go_frame
    refine rgTake 2 (some 27) hHeld _ ?_;try go_frame
    refine rgTake 3 (some 28) hHeld _ ?_;try go_frame
    refine rgTake 4 (some 29) hHeld _ ?_;try go_frame
    refine rgTake 5 (some 30) hHeld _ ?_;try go_frame
    refine rgTake 6 (some 31) hHeld _ ?_;try go_frame
    refine rgTwo 7 12 (fun K hK=> ?_) (fun K hK=> ?_)
    ·go_simp
     refine (HCF.out _ bq).mono ?_;rintro e wq ⟨vr,rfl,own_r,bel⟩;have hlo:=bq.size;have bq:=below_step bel bq;(try have hgr:=zB.lt);(try have zB:=zB.later bel);obtain ⟨Ar1,cr1,Ar2,cr2,rfl⟩:=own_r.agg
     (try go_wp2_with fail)
     refine hK.out _ _ ?_ (fun hHeld=> ?_)
     ·(try dsimp only);exact ⟨cell_later bq s1,cell_later bq o0,cell_later bq o1,cell_later bq o2,cell_later bq d0⟩
     clear hK K
     try go_frame
     refine rgTake 8 (some 24) hHeld _ ?_;try go_frame
     refine rgTake 9 (some 33) hHeld _ ?_;try go_frame
     refine rgTake 10 (some 34) hHeld _ ?_;try go_frame
     refine rgTake 11 (some 35) hHeld _ ?_;try go_frame
     refine rgStep 12 (fun K hK=> ?_)
     (try go_simp)
     have hge:=bq.size;first|(have zB:=b3_zero bq;have bq:=bq.alloc bq.size zO;(try have own_r:=own_r.bal zO);generalize wq.alloc zO=wa at*)|(have zB:B3 (wr.alloc zO).drew wr.heap.size (.int .i64 0) (.slice none 0 0) (.slice none 0 0):=b3_zero bq;have bq:Below wr.heap.size wr (wr.alloc zO).drew:=bq.alloc bq.size zO;generalize (wr.alloc zO).drew=wa at*)
     refine hK.out _ _ ?_ (fun hHeld=> ?_)
     ·(try dsimp only);exact ⟨cell_later bq s1,cell_later bq o0,cell_later bq o1,cell_later bq o2,cell_later bq d0⟩
     clear hK K
     try go_frame
     refine rgStep 13 (fun K hK=> ?_)
     (try go_simp)
     have own_r:=own_r.set3 (by first|exact .inr hgr|exact .inl (Nat.le_refl _)) (.int .i64 OY.n) (.slice Ar1 OY.b.length cr1) (.slice Ar2 OY.items.length cr2);have bq:=below_set3 bq hge (.int .i64 OY.n) (.slice Ar1 OY.b.length cr1) (.slice Ar2 OY.items.length cr2);have zB0:=zB;obtain ⟨zl,z0,z1,z2,y0,y1,y2⟩:=zB0;go_simp;have zB:=zB.set (.int .i64 OY.n) (.slice Ar1 OY.b.length cr1) (.slice Ar2 OY.items.length cr2)
     refine hK.out _ _ ?_ (fun hHeld=> ?_)
     ·(try dsimp only);exact ⟨cell_later bq s1,cell_later bq o0,cell_later bq o1,cell_later bq o2,cell_later bq d0⟩
     clear hK K
     try go_frame
     refine rgTake 14 (some 11) hHeld _ ?_;try go_frame
     refine rgTake 15 (some 12) hHeld _ ?_;try go_frame
     refine wpAnyH_done (by kernel_rfl) ?_ _
     go_wp2_with fail
     go_meet
     exact ⟨_,_,_,_,_,_,_,rfl,zB,own_r,hlo,(by first|exact Nat.le_of_lt zB.lt|simp),hge,bq⟩
    ·(try go_simp)
     have hge:=bq.size;first|(have zB:=b3_zero bq;have bq:=bq.alloc bq.size zO;(try have own_r:=own_r.bal zO);generalize wq.alloc zO=wa at*)|(have zB:B3 (wr.alloc zO).drew wr.heap.size (.int .i64 0) (.slice none 0 0) (.slice none 0 0):=b3_zero bq;have bq:Below wr.heap.size wr (wr.alloc zO).drew:=bq.alloc bq.size zO;generalize (wr.alloc zO).drew=wa at*)
     refine hK.out _ _ ?_ (fun hHeld=> ?_)
     ·(try dsimp only);exact ⟨cell_later bq s1,cell_later bq o0,cell_later bq o1,cell_later bq o2,cell_later bq d0⟩
     clear hK K
     try go_frame
     refine rgStep 7 (fun K hK=> ?_)
     go_simp
     refine (HCF.out _ bq).mono ?_;rintro e wq ⟨vr,rfl,own_r,bel⟩;have hlo:=bq.size;have bq:=below_step bel bq;(try have hgr:=zB.lt);(try have zB:=zB.later bel);obtain ⟨Ar1,cr1,Ar2,cr2,rfl⟩:=own_r.agg
     (try go_wp2_with fail)
     refine hK.out _ _ ?_ (fun hHeld=> ?_)
     ·(try dsimp only);exact ⟨cell_later bq s1,cell_later bq o0,cell_later bq o1,cell_later bq o2,cell_later bq d0⟩
     clear hK K
     try go_frame
     refine rgTake 8 (some 24) hHeld _ ?_;try go_frame
     refine rgTake 9 (some 33) hHeld _ ?_;try go_frame
     refine rgTake 10 (some 34) hHeld _ ?_;try go_frame
     refine rgTake 11 (some 35) hHeld _ ?_;try go_frame
     refine rgStep 13 (fun K hK=> ?_)
     (try go_simp)
     have own_r:=own_r.set3 (by first|exact .inr hgr|exact .inl (Nat.le_refl _)) (.int .i64 OY.n) (.slice Ar1 OY.b.length cr1) (.slice Ar2 OY.items.length cr2);have bq:=below_set3 bq hge (.int .i64 OY.n) (.slice Ar1 OY.b.length cr1) (.slice Ar2 OY.items.length cr2);have zB0:=zB;obtain ⟨zl,z0,z1,z2,y0,y1,y2⟩:=zB0;go_simp;have zB:=zB.set (.int .i64 OY.n) (.slice Ar1 OY.b.length cr1) (.slice Ar2 OY.items.length cr2)
     refine hK.out _ _ ?_ (fun hHeld=> ?_)
     ·(try dsimp only);exact ⟨cell_later bq s1,cell_later bq o0,cell_later bq o1,cell_later bq o2,cell_later bq d0⟩
     clear hK K
     try go_frame
     refine rgTake 14 (some 11) hHeld _ ?_;try go_frame
     refine rgTake 15 (some 12) hHeld _ ?_;try go_frame
     refine wpAnyH_done (by kernel_rfl) ?_ _
     go_wp2_with fail
     go_meet
     exact ⟨_,_,_,_,_,_,_,rfl,zB,own_r,hlo,(by first|exact Nat.le_of_lt zB.lt|simp),hge,bq⟩
   case rest=>
    obtain ⟨bo,Af,cf,Ag,cg,lf,hf,rfl,zF,hoF,hloF,hhiF,hgeF,bF⟩:=hcut
    obtain ⟨wf,hWc⟩:∃W9:World,W9=wc:=⟨_,rfl⟩
    subst hWc
    have s1:=cell_later bF s1
    have o0:=cell_later bF o0
    have o1:=cell_later bF o1
    have o2:=cell_later bF o2
    have d0:=cell_later bF d0
    have d1:=cell_later bF d1
    have d2:=cell_later bF d2
    have d3:=cell_later bF d3
    have HFF:=Lib.hid (And.intro zF (And.intro hoF (And.intro hloF hhiF)))
    have hfw:=bF.size
    have HBF:=Lib.hid bF
    clear zF hoF hloF hhiF hgeF bF HCF
    go_upto_region 7 with fail
    go_cut [13,14] from 18 to 65 (fun s13 s14 wx=> ∃(bq:Nat) (A1:Option Addr) (c1:Nat) (A2:Option Addr) (c2 lo hi:Nat),s13= .pointer (some ⟨bq,0,none⟩)∧s14= .bool EB∧B3 wx bq (.int .i64 EY.n) (.slice A1 EY.b.length c1) (.slice A2 EY.items.length c2)∧OwV EY lo hi wx (.agg #[.int .i64 EY.n, .slice A1 EY.b.length c1, .slice A2 EY.items.length c2])∧wf.heap.size≤lo∧hi≤wx.heap.size∧wf.heap.size≤bq∧Below wf.heap.size wf wx)
    case first=>
     have bq:=(Below.refl wf.heap.size wf).drew
     go_wp2_with fail
     refine wp_region_held_drew (S:=(fun w9=> w9.cell? ⟨w.heap.size,0,none⟩=some (.slice A nl c)∧w9.cell? ⟨gO,0,none⟩=some (.int .i64 Y.n)∧w9.cell? ⟨gO,1,none⟩=some (.slice A1 Y.b.length c1)∧w9.cell? ⟨gO,2,none⟩=some (.slice A2 Y.items.length c2)∧w9.cell? ⟨b,off+k*4,none⟩=some (.string ck.path)∧w9.cell? ⟨b,off+k*4+1,none⟩=some (.int .i64 ck.part.n)∧w9.cell? ⟨b,off+k*4+2,none⟩=some (.slice Ap ck.part.b.length cp)∧w9.cell? ⟨b,off+k*4+3,none⟩=some (.slice Aq ck.part.items.length cq))) (by kernel_rfl) ?_ (fun hHeld=> ?_)
     ·(try dsimp only);exact ⟨s1,o0,o1,o2,d0,d1,d2,d3⟩
     refine rgTake 0 (some 37) hHeld _ ?_;try go_frame
     refine rgTake 1 (some 38) hHeld _ ?_;try go_frame
     refine rgTake 2 (some 39) hHeld _ ?_;try go_frame
     refine rgTake 3 (some 40) hHeld _ ?_;try go_frame
     refine rgTake 4 (some 41) hHeld _ ?_;try go_frame
     refine rgTake 5 (some 42) hHeld _ ?_;try go_frame
     refine rgTake 6 (some 43) hHeld _ ?_;try go_frame
     refine rgTake 7 (some 44) hHeld _ ?_;try go_frame
     refine rgTake 8 (some 45) hHeld _ ?_;try go_frame
     refine rgTake 9 (some 46) hHeld _ ?_;try go_frame
     refine rgTake 10 (some 47) hHeld _ ?_;try go_frame
     refine rgTake 11 (some 48) hHeld _ ?_;try go_frame
     refine rgTwo 12 16 (fun K hK=> ?_) (fun K hK=> ?_)
     ·go_simp
      refine (HCR.out _ (below_step bq HBF.out)).mono ?_;rintro e wq ⟨vr,rfl,own_r,bel⟩;have hlo:=bq.size;have bq:=below_step bel bq;(try have hgr:=zB.lt);(try have zB:=zB.later bel);obtain ⟨Ar1,cr1,Ar2,cr2,rfl⟩:=own_r.agg
      (try go_wp2_with fail)
      refine hK.out _ _ ?_ (fun hHeld=> ?_)
      ·(try dsimp only);exact ⟨cell_later bq s1,cell_later bq o0,cell_later bq o1,cell_later bq o2,cell_later bq d0,cell_later bq d1,cell_later bq d2,cell_later bq d3⟩
      clear hK K
      try go_frame
      refine rgTake 13 (some 36) hHeld _ ?_;try go_frame
      refine rgTake 14 (some 50) hHeld _ ?_;try go_frame
      refine rgTake 15 (some 51) hHeld _ ?_;try go_frame
      refine rgStep 16 (fun K hK=> ?_)
      (try go_simp)
      have hge:=bq.size;first|(have zB:=b3_zero bq;have bq:=bq.alloc bq.size zO;(try have own_r:=own_r.bal zO);generalize wq.alloc zO=wa at*)|(have zB:B3 (wf.alloc zO).drew wf.heap.size (.int .i64 0) (.slice none 0 0) (.slice none 0 0):=b3_zero bq;have bq:Below wf.heap.size wf (wf.alloc zO).drew:=bq.alloc bq.size zO;generalize (wf.alloc zO).drew=wa at*)
      refine hK.out _ _ ?_ (fun hHeld=> ?_)
      ·(try dsimp only);exact ⟨cell_later bq s1,cell_later bq o0,cell_later bq o1,cell_later bq o2,cell_later bq d0,cell_later bq d1,cell_later bq d2,cell_later bq d3⟩
      clear hK K
      try go_frame
      refine rgStep 17 (fun K hK=> ?_)
      (try go_simp)
      have own_r:=own_r.set3 (by first|exact .inr hgr|exact .inl (Nat.le_refl _)) (.int .i64 EY.n) (.slice Ar1 EY.b.length cr1) (.slice Ar2 EY.items.length cr2);have bq:=below_set3 bq hge (.int .i64 EY.n) (.slice Ar1 EY.b.length cr1) (.slice Ar2 EY.items.length cr2);have zB0:=zB;obtain ⟨zl,z0,z1,z2,y0,y1,y2⟩:=zB0;go_simp;have zB:=zB.set (.int .i64 EY.n) (.slice Ar1 EY.b.length cr1) (.slice Ar2 EY.items.length cr2)
      refine hK.out _ _ ?_ (fun hHeld=> ?_)
      ·(try dsimp only);exact ⟨cell_later bq s1,cell_later bq o0,cell_later bq o1,cell_later bq o2,cell_later bq d0,cell_later bq d1,cell_later bq d2,cell_later bq d3⟩
      clear hK K
      try go_frame
      refine rgTake 18 (some 14) hHeld _ ?_;try go_frame
      refine wpAnyH_done (by kernel_rfl) ?_ _
      go_wp2_with fail
      go_meet
      exact ⟨_,_,_,_,_,_,_,rfl,rfl,zB,own_r,hlo,(by first|exact Nat.le_of_lt zB.lt|simp),hge,bq⟩
     ·(try go_simp)
      have hge:=bq.size;first|(have zB:=b3_zero bq;have bq:=bq.alloc bq.size zO;(try have own_r:=own_r.bal zO);generalize wq.alloc zO=wa at*)|(have zB:B3 (wf.alloc zO).drew wf.heap.size (.int .i64 0) (.slice none 0 0) (.slice none 0 0):=b3_zero bq;have bq:Below wf.heap.size wf (wf.alloc zO).drew:=bq.alloc bq.size zO;generalize (wf.alloc zO).drew=wa at*)
      refine hK.out _ _ ?_ (fun hHeld=> ?_)
      ·(try dsimp only);exact ⟨cell_later bq s1,cell_later bq o0,cell_later bq o1,cell_later bq o2,cell_later bq d0,cell_later bq d1,cell_later bq d2,cell_later bq d3⟩
      clear hK K
      try go_frame
      refine rgStep 12 (fun K hK=> ?_)
      go_simp
      refine (HCR.out _ (below_step bq HBF.out)).mono ?_;rintro e wq ⟨vr,rfl,own_r,bel⟩;have hlo:=bq.size;have bq:=below_step bel bq;(try have hgr:=zB.lt);(try have zB:=zB.later bel);obtain ⟨Ar1,cr1,Ar2,cr2,rfl⟩:=own_r.agg
      (try go_wp2_with fail)
      refine hK.out _ _ ?_ (fun hHeld=> ?_)
      ·(try dsimp only);exact ⟨cell_later bq s1,cell_later bq o0,cell_later bq o1,cell_later bq o2,cell_later bq d0,cell_later bq d1,cell_later bq d2,cell_later bq d3⟩
      clear hK K
      try go_frame
      refine rgTake 13 (some 36) hHeld _ ?_;try go_frame
      refine rgTake 14 (some 50) hHeld _ ?_;try go_frame
      refine rgTake 15 (some 51) hHeld _ ?_;try go_frame
      refine rgStep 17 (fun K hK=> ?_)
      (try go_simp)
      have own_r:=own_r.set3 (by first|exact .inr hgr|exact .inl (Nat.le_refl _)) (.int .i64 EY.n) (.slice Ar1 EY.b.length cr1) (.slice Ar2 EY.items.length cr2);have bq:=below_set3 bq hge (.int .i64 EY.n) (.slice Ar1 EY.b.length cr1) (.slice Ar2 EY.items.length cr2);have zB0:=zB;obtain ⟨zl,z0,z1,z2,y0,y1,y2⟩:=zB0;go_simp;have zB:=zB.set (.int .i64 EY.n) (.slice Ar1 EY.b.length cr1) (.slice Ar2 EY.items.length cr2)
      refine hK.out _ _ ?_ (fun hHeld=> ?_)
      ·(try dsimp only);exact ⟨cell_later bq s1,cell_later bq o0,cell_later bq o1,cell_later bq o2,cell_later bq d0,cell_later bq d1,cell_later bq d2,cell_later bq d3⟩
      clear hK K
      try go_frame
      refine rgTake 18 (some 14) hHeld _ ?_;try go_frame
      refine wpAnyH_done (by kernel_rfl) ?_ _
      go_wp2_with fail
      go_meet
      exact ⟨_,_,_,_,_,_,_,rfl,rfl,zB,own_r,hlo,(by first|exact Nat.le_of_lt zB.lt|simp),hge,bq⟩
    case rest=>
     obtain ⟨be,Ae,ce,Ah,ch,le,he,rfl,rfl,zE,hoE,hloE,hheE,hgeE,bE⟩:=hcut
     obtain ⟨we,hWc⟩:∃W9:World,W9=wc:=⟨_,rfl⟩
     subst hWc
     have bW:=below_step (below_step bE HBF.out) HZ.out.2
     cases EB
     ·have HX:=Lib.hid (show FX= [] from by
       have:=HE.out.2.1
       rw [invV_no _ _ HE.out.1] at this
       exact this.symm)
      have HB:=Lib.hid (HB0.out.trans (bW.mono HB0.out.size))
      clear zE hoE hloE hheE hgeE bE bW HE HZ HFF HBF HCR HA s1 o0 o1 o2 d0 d1 d2 d3
      go_wp2
      go_ret
      rw [HX.out]
      exact ⟨_,rfl,OwC.nil rfl HB.out.size (by simp),HB.out.alloc HB.out.size _⟩
     ·have HX:=Lib.hid (show invV D (L.drop (k+1)) EY (⟨ck.path,OY⟩::acc)=FX∧EY.size+chSizes (L.drop (k+1))≤2097152 from by
       have h1:=HE.out.2.1
       rw [invV_yes _ _ HE.out.1,HE.out.2.2.2.2] at h1
       have h2:=HE.out.2.2.1
       have h3:=HE.out.2.2.2.1
       rw [chSizes] at h2
       unfold ChD.size at h2
       (try dsimp only at h3)
       exact ⟨h1,by omega⟩)
      have bRW:=below_step bE HBF.out
      obtain ⟨hoa,hsa,hla,hha⟩:=HA.out
      have hgl:=HZ.out.1.lt
      obtain ⟨al,hacc,ha1,ha2,ha3,ha4⟩:=hoa.keep (Out.of_below bRW 0 0) (.inr (Nat.zero_le _))
      have hln:acc.length=al.length:=by rw [←hacc,List.length_map]
      obtain ⟨la',hl1,hl2,hl3,hl4⟩:∃la',gO < la'∧la'≤wr.heap.size∧(∀x∈al,x.part.own la' we)∧∀g∈VM.bkss (al.map CM.part),la'≤g:=by
       rcases hsa with ⟨h0, -⟩|hgt
       ·have:al= []:=List.eq_nil_of_length_eq_zero (by rw [←hln,h0];rfl)
        subst this
        exact ⟨wr.heap.size,hgl,Nat.le_refl _,fun x hx=> by simp at hx,fun g hg=> by simp [VM.bkss_nil] at hg⟩
       ·exact ⟨min la wr.heap.size,by omega,by omega,fun x hx=> (ha2 x hx).base (by omega),fun g hg=> by have:=ha4 g (List.mem_append_right _ hg);omega⟩
      obtain ⟨hzF,hoF,hloF,hhiF⟩:=HFF.out
      obtain ⟨oy,hoyd,hoyv,hoy⟩:=hoF.keep (Out.of_below bE 0 0) (.inr (Nat.zero_le _))
      unfold vmV at hoyv
      simp only [Value.agg.injEq,Array.mk.injEq,List.cons.injEq,and_true,Value.int.injEq,true_and] at hoyv
      obtain ⟨hv0,hv1,hv2⟩:=hoyv
      have hcm:cmCells ⟨ck.path,oy⟩= [.string ck.path, .int .i64 OY.n, .slice Af OY.b.length cf, .slice Ag OY.items.length cg]:=by unfold cmCells;rw [←hv0,←hv1,←hv2]
      have hone:∀u∈al.flatMap cmCells,u.oneCell'=true:=fun u hu=> by
       obtain ⟨x,hx,hm⟩:=List.mem_flatMap.1 hu
       exact one_of_chg (ha2 x hx) u hm
      have zF:=hzF.later bE
      have f0:=zF.c0
      have f1:=zF.c1
      have f2:=zF.c2
      have d0:=cell_later bE d0
      have hwe:=bE.size
      have hal9:al.length≤2097152:=by omega
      have HSL:=Lib.hid (Sl.of_own ha1)
      have HLN:=Lib.hid hln
      clear hln
      have HN:=Lib.hid (And.intro hacc (And.intro hl3 (And.intro hl4 (And.intro hoyd (And.intro hoy (And.intro hcm (And.intro ha3 (fun g hg=> (ha4 g (List.mem_append_right _ hg))))))))))
      have HO1:=Lib.hid hone
      have HW:=Lib.hid (And.intro bW (And.intro bRW (And.intro zE (And.intro hoE hheE))))
      clear hacc ha1 ha2 ha3 ha4 hl3 hl4 hoyd hoy hv0 hv1 hv2 hone hzF hoF zF HFF HCR HE s1 o0 o1 o2 d1 d2 d3 hoa hsa HA hoE hheE zE bW bRW hcm
      have bq:=(Below.refl we.heap.size we).drew
      go_wp2_with fail
      refine wp_region_held_drew (S:=(fun w9=> w9.cell? ⟨b,off+k*4,none⟩=some (.string ck.path)∧w9.cell? ⟨bo,0,none⟩=some (.int .i64 OY.n)∧w9.cell? ⟨bo,1,none⟩=some (.slice Af OY.b.length cf)∧w9.cell? ⟨bo,2,none⟩=some (.slice Ag OY.items.length cg))) (by kernel_rfl) ?_ (fun hHeld=> ?_)
      ·(try dsimp only);exact ⟨d0,f0,f1,f2⟩
      refine rgTake 0 (some 55) hHeld _ ?_;try go_frame
      refine rgTake 1 (some 56) hHeld _ ?_;try go_frame
      refine rgTake 2 (some 57) hHeld _ ?_;try go_frame
      refine rgTake 3 (some 58) hHeld _ ?_;try go_frame
      refine rgTake 4 (some 59) hHeld _ ?_;try go_frame
      refine rgTake 5 (some 60) hHeld _ ?_;try go_frame
      refine rgTake 6 (some 61) hHeld _ ?_;try go_frame
      refine rgTake 8 (some 63) hHeld _ ?_;try go_frame
      refine rgStep 7 (fun K hK=> ?_)
      (try go_simp)
      obtain ⟨X1,hX1⟩:∃V,V=(we.alloc (.cells #[.string ck.path, .int .i64 OY.n, .slice Af OY.b.length cf, .slice Ag OY.items.length cg] 58)).drew:=⟨_,rfl⟩;rw [←hX1];have hv:X1.ownsRow we.heap.size 58 4 (.slice (some ⟨we.heap.size,0,none⟩) 1 1) 1 [.string ck.path, .int .i64 OY.n, .slice Af OY.b.length cf, .slice Ag OY.items.length cg]:=(by rw [hX1];exact own_lit4 (W:=we) rfl (Nat.le_refl _));have bq:Below we.heap.size we X1:=(by rw [hX1];exact ((Below.refl we.heap.size we).alloc (Nat.le_refl _) _).drew);clear hX1
      refine hK.out _ _ ?_ (fun hHeld=> ?_)
      ·(try dsimp only);exact ⟨cell_later bq d0,cell_later bq f0,cell_later bq f1,cell_later bq f2⟩
      clear hK K
      try go_frame
      refine rgStep 9 (fun K hK=> ?_)
      refine wp_app _ (.tmp 62) (.tmp 63) 43 rfl we.heap.size 58 i0 (.agg #[.string ByteArray.empty, .int .i64 0, .slice none 0 0, .slice none 0 0]) 4 72 Tryz.underlying43 HI.out.1 HI.out.2.1 HI.out.2.2.1 HI.out.2.2.2 rfl (by decide) _ 1 _ rfl (by exact hv) we.heap.size al.length _ (al.flatMap cmCells) rfl (by exact Sl.below HSL.out bq) HO1.out (by omega) (by unfold maxLen;omega) (by have:=bq.size;omega) ?_;intro v5 X5 hv5 hg5 hvv5;have bq:=bq.grown hg5 bq.size (by intro q hq;exact (hv.lt q hq).1);clear hg5 hvv5 hv
      refine hK.out _ _ ?_ (fun hHeld=> ?_)
      ·(try dsimp only);exact ⟨cell_later bq d0,cell_later bq f0,cell_later bq f1,cell_later bq f2⟩
      clear hK K
      try go_frame
      refine rgTake 10 (some 7) hHeld _ ?_;try go_frame
      refine wpAnyH_done (by kernel_rfl) ?_ _
      obtain ⟨hacc,hl3,hl4,hoyd,hoy,hcm,ha3,ha4⟩:=HN.out
      obtain ⟨bW,bRW,zE,hoE,hheE⟩:=HW.out
      have zO:=HZ.out.1.later (below_step bq bRW)
      have zE:=zE.later bq
      have hlv:=hv5.lt
      have hz5:=bq.size
      have hhe5:he≤X5.heap.size:=by omega
      have hln:=HLN.out
      rw [←hcm] at hv5
      have hCC:OwC (⟨ck.path,OY⟩::acc) la' X5.heap.size X5 v5:=by
       refine ⟨⟨ck.path,oy⟩::al,by rw [List.map_cons,hacc];unfold CM.d;rw [hoyd],?_,fun z hz=> ?_,?_,fun g hg=> ?_⟩
       ·rw [List.flatMap_cons,List.length_cons,Nat.add_comm]
        exact own_base hv5 (by omega)
       ·rw [List.mem_cons] at hz
        rcases hz with rfl|hz
        ·exact (hoy.own.keep fun g hg=> bq.block g (hoy.own.lt g hg).2).base (by omega)
        ·exact (hl3 z hz).keep fun g hg=> bq.block g ((hl3 z hz).lt g hg).2
       ·rw [List.map_cons,VM.bkss_cons,List.nodup_append]
        refine ⟨by cases v5.ownBlock <;> simp,?_,fun a ha' b' hb' e=> ?_⟩
        ·rw [List.nodup_append]
         refine ⟨hoy.nd,(List.nodup_append.1 ha3).2.1,fun a h1 b' h2 e=> ?_⟩
         have:=hoy.rng a h1
         have:=ha4 b' h2
         omega
        ·have h1:=hlv a (Option.mem_toList.1 ha')
         rw [List.mem_append] at hb'
         rcases hb' with hb'|hb'
         ·have:=hoy.rng b' hb';omega
         ·have:=ha4 b' hb';omega
       ·rw [List.map_cons,VM.bkss_cons,List.mem_append,List.mem_append] at hg
        rcases hg with hg|hg|hg
        ·have:=hlv g (Option.mem_toList.1 hg);omega
        ·have:=hoy.rng g hg;omega
        ·have:=ha4 g hg;have:=hl4 g hg;omega
      have hOt:Out gO (gO+1) X5 (((X5.setCell ⟨gO,0,none⟩ (.int .i64 EY.n)).setCell ⟨gO,1,none⟩ (.slice Ae EY.b.length ce)).setCell ⟨gO,2,none⟩ (.slice Ah EY.items.length ch)):=
       (((Out.refl _ _ _).setCell (Nat.le_refl _) (by omega) _).setCell (Nat.le_refl _) (by omega) _).setCell (Nat.le_refl _) (by omega) _
      have hoE:=hoE.keep (Out.of_below bq 0 0) (.inr (Nat.zero_le _))
      have HQ:=Lib.hid (And.intro (hCC.keep hOt (.inr (by omega))) (And.intro (hoE.keep hOt (.inr (by omega))) (And.intro (zO.set (.int .i64 EY.n) (.slice Ae EY.b.length ce) (.slice Ah EY.items.length ch)) (below_set3 (below_step bq bW) (show W0.heap.size≤gO by omega) (.int .i64 EY.n) (.slice Ae EY.b.length ce) (.slice Ah EY.items.length ch)))))
      obtain ⟨zl,z0,z1,z2,y0,y1,y2⟩:=zO
      obtain ⟨el,e0,e1,e2, -, -, -⟩:=zE
      clear hoE hheE bW bRW HW HN hCC hOt hacc hl3 hl4 hoyd hoy hcm ha3 ha4 hlv hv5 bq HSL HO1 hln
      go_wp2
      go_roundw
      case rel=> exact ⟨k+1,by omega,by go_num,EY,Ae,ce,Ah,ch,le,he,la',X5.heap.size,_,HQ.out.2.2.1,Lib.hid ⟨HQ.out.2.1, .inr (by omega),by simp;omega,HQ.out.1, .inr hl1,by omega,by simp,by rw [List.length_cons];omega,HX.out⟩,HQ.out.2.2.2⟩
      case measure=> simp [intOf];omega
  ·have hkl:k=lc.length:=by omega
   obtain ⟨ho,hsep,hhi,hoa,hsa,hla,hha,hal,hap,hsz⟩:=HO.out
   rw [hkl,←HLl.out,List.drop_length,invV] at hap
   have HX:=Lib.hid hap
   have HOO:=Lib.hid (And.intro hoa (And.intro hla hha))
   have HB:=Lib.hid (HB0.out.trans (b0.mono HB0.out.size))
   clear HO ho hsep hhi hap hsz HCE HR HLA b0 hoa hla hha hsa zB
   go_wp2
   go_ret
   have h:=HOO.out
   rw [←HX.out]
   exact ⟨_,rfl,h.1.wide h.2.1 h.2.2,HB.out⟩
end Go.Proofs.YtipfacnmobineaaGreatDoor
