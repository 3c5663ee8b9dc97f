/- Out of ChaP, ValAs: the walks and plain laws that the claim needs. No condition but those that each theorem names. -/
import Derived.Test.YtipfacnmobineaaGreatDoorGra
import Derived.Test.YtipfacnmobineaaGreatDoorGca
import Derived.Test.YtipfacnmobineaaGreatDoorGu
import Derived.Test.YtipfacnmobineaaGreatDoorGv
import Derived.Test.YtipfacnmobineaaGreatDoorGrc
import Derived.WalkSpells
import Derived.WalkLawsBesides
import Derived.Deep.RegionHeld3
import Derived.Deep.CutRange
set_option linter.unusedSimpArgs false
set_option linter.unusedVariables false
namespace Go.Proofs.YtipfacnmobineaaGreatDoor
open Go.RowKit
def chgV (D:List RuleD) (Y:Val) (c:ChD):Val × Bool:=editV D Y (spOk isStep c.path) (spL isStep c.path) (repC D c.part)
def applyV (D:List RuleD) (X:Val):List ChD→Val→Val × Bool
 | [],Y=> (Y,true)
 |c::l,Y=> if (chgV D Y c).2 then applyV D X l (chgV D Y c).1 else (X,false)
theorem chgV_size (D:List RuleD) (Y:Val) (c:ChD):(chgV D Y c).1.size≤Y.size+c.part.size:=
 editV_size (b:=(chgV D Y c).2) (N:=c.part.size) (fun k y p _ hc=> by
  unfold repC at hc
  split at hc
  ·cases hc;exact Nat.le_refl _
  ·cases hc) rfl
theorem applyV_size {D:List RuleD} {X:Val} {N:Nat} (hX:X.size≤N):∀(l:List ChD) (Y:Val),Y.size+chSizes l≤N→(applyV D X l Y).1.size≤N
 | [],Y,h=> by rw [chSizes] at h;exact h
 |c::l,Y,h=> by
  rw [applyV]
  split
  ·refine applyV_size hX l _ ?_
   have:=chgV_size D Y c
   rw [chSizes] at h
   unfold ChD.size at h
   omega
  ·exact hX
theorem applyV_yes {D:List RuleD} {X Y EY:Val} {c:ChD} (l:List ChD) (h:chgV D Y c=(EY,true)):applyV D X (c::l) Y=applyV D X l EY:=by rw [applyV,h,if_pos rfl]
theorem applyV_no {D:List RuleD} {X Y EY:Val} {c:ChD} (l:List ChD) (h:chgV D Y c=(EY,false)):applyV D X (c::l) Y=(X,false):=by rw [applyV,h,if_neg (by simp)]
def oldV (D:List RuleD) (Y:Val) (c:ChD):ChD:=⟨c.path,(findV D Y (spOk isStep c.path) (spL isStep c.path)).1⟩
def invV (D:List RuleD):List ChD→Val→List ChD→List ChD
 | [],_,acc=> acc
 |c::l,Y,acc=> if (chgV D Y c).2 then invV D l (chgV D Y c).1 (oldV D Y c::acc) else []
theorem invV_yes {D:List RuleD} {Y EY:Val} {c:ChD} (l acc:List ChD) (h:chgV D Y c=(EY,true)):invV D (c::l) Y acc=invV D l EY (oldV D Y c::acc):=by rw [invV,h,if_pos rfl]
theorem invV_no {D:List RuleD} {Y EY:Val} {c:ChD} (l acc:List ChD) (h:chgV D Y c=(EY,false)):invV D (c::l) Y acc= []:=by rw [invV,h,if_neg (by simp)]
theorem walkV_size {D:List RuleD}:∀{t:List ByteArray} {k k':Int} {x y:Val},walkV D k x t=some (k',y)→y.size≤x.size
 | [],k,k',x,y,hw=> by rw [walkV] at hw;cases hw;exact Nat.le_refl _
 |s::t,k,k',x,y,hw=> by
  rcases followOf_bd D k x.items.length s with e|⟨j,hj,e⟩
  ·rw [walkV_no (by omega)] at hw;cases hw
  ·rw [walkV_at e hj] at hw
   have h1:=walkV_size hw
   have h2:=Val.size_le_of_mem (List.getElem_mem hj)
   have e2:x.size=x.b.length+Val.sizes x.items:=by conv=> lhs;rw [Val.eta x,Val.size_mk]
   omega
theorem findV_size (D:List RuleD) (Y:Val) (ok:Bool) (S:List ByteArray):(findV D Y ok S).1.size≤Y.size:=by
 have h0:noVal.size≤Y.size:=by unfold noVal;rw [Val.size_mk,Val.sizes_nil];exact Nat.zero_le _
 unfold findV
 split
 ·split
  ·exact h0
  ·rename_i hw;exact walkV_size hw
 ·exact h0
theorem invV_size {D:List RuleD} {N:Nat}:∀(l:List ChD) (Y:Val) (acc:List ChD),Y.size+chSizes l≤N→chSizes (invV D l Y acc)≤chSizes acc+l.length*(2*N+1)
 | [],Y,acc,h=> by rw [invV];simp
 |c::l,Y,acc,h=> by
  rw [invV]
  split
  ·have h1:=chgV_size D Y c
   have h2:=findV_size D Y (spOk isStep c.path) (spL isStep c.path)
   rw [chSizes] at h
   unfold ChD.size at h
   refine Nat.le_trans (invV_size (N:=N) l _ _ (by omega)) ?_
   rw [chSizes,List.length_cons,Nat.add_mul,Nat.one_mul]
   unfold oldV ChD.size
   dsimp only
   omega
  ·rw [chSizes];omega
end Go.Proofs.YtipfacnmobineaaGreatDoor
namespace Go.Proofs.YtipfacnmobineaaGreatDoor
open Go.RowKit
set_option maxHeartbeats 4000000 in
set_option maxRecDepth 100000 in
theorem specApply_any (vD:Value) (l:List RM) (x:VM) (vC:Value) (lc:List CM) (B:Nat) (w:World) (h:SlD w B vD l) (hB:B≤w.heap.size) (ok:∀r∈l,r.d.ok) (sm:∀r∈l,r.d.small 1048576) (hx:x.rd w B) (hC:SlC w B vC lc) (hs:x.d.size+chSizes (lc.map CM.d)≤2097152):
  Calls Tryz.prog 9 #[.agg #[vD],vmV x,vC] w (Made2 (OwV (applyV (l.map RM.d) x.d (lc.map CM.d) x.d).1) (.bool (applyV (l.map RM.d) x.d (lc.map CM.d) x.d).2) w):=by
 have hR:∀(y:VM) (c:CM) (wr W:World),c∈lc→Below w.heap.size w wr→Below wr.heap.size wr W→y.rd wr wr.heap.size→y.d.size≤4194304→
   Calls Tryz.prog 33 #[.agg #[vD],vmV y, .string c.path,vmV c.part] W (Made2 (OwV (chgV (l.map RM.d) y.d c.d).1) (.bool (chgV (l.map RM.d) y.d c.d).2) W):=fun y c wr W hc hb hb2 hy hys=> by
  have h1:=chSizes_mem (List.mem_map_of_mem (f:=CM.d) hc)
  unfold ChD.size at h1
  rw [CM.d_part,CM.d_path] at h1
  exact specRep_any vD l y c.part c.path wr.heap.size W ((h.below ((below_step hb2 hb).mono hB)).more (by have:=hb.size;omega)) hb2.size ok sm (hy.bel hb2) hys (((hC.2 c hc).bel ((below_step hb2 hb).mono hB)).more (by have:=hb.size;omega)) (by omega) (by omega)
 have hCP:∀W,Below w.heap.size w W→Calls Tryz.prog 32 #[vmV x] W (Made (OwV x.d) W):=fun W hb=>
  specCopy_any x B W (hx.bel (hb.mono hB)) (by have:=hb.size;omega) (by omega)
 have hC2:=hC.2
 obtain ⟨A,c,rfl, -, -, -⟩:=h.open_
 obtain ⟨Ac,cc,rfl,hcc,hcm,hcell⟩:=hC.open_
 obtain ⟨Ax,cx,ex, -⟩:=hx.bytes.open_
 obtain ⟨Ay,cy,ey, -⟩:=hx.its.open_
 unfold vmV at hCP ⊢
 rw [ex,ey] at hCP ⊢
 obtain ⟨L,hL⟩:∃L,L=lc.map CM.d:=⟨_,rfl⟩
 have hLl:L.length=lc.length:=by rw [hL,List.length_map]
 have hLa:∀k (hk:k < lc.length),L.drop k=lc[k].d::L.drop (k+1):=fun k hk=> by
  rw [List.drop_eq_getElem_cons (by rw [hLl];exact hk)]
  simp [hL]
 rw [←hL] at hs ⊢
 obtain ⟨FX,FB,hF⟩:∃a b,applyV (l.map RM.d) x.d L x.d=(a,b):=⟨_,_,rfl⟩
 rw [hF]
 generalize l.map RM.d=D at*
 have HR:=Lib.hid hR
 have HCP:=Lib.hid hCP
 have HCP1:=Lib.hid hCP
 have HLA:=Lib.hid hLa
 have HLl:=Lib.hid hLl
 have HF:=Lib.hid (show applyV D x.d (L.drop 0) x.d=(FX,FB)∧x.d.size+chSizes (L.drop 0)≤2097152 from ⟨by rw [List.drop_zero];exact hF,by rw [List.drop_zero];exact hs⟩)
 have HCE:=Lib.hid (And.intro hcell hC2)
 have hXs:x.d.size≤2097152:=by omega
 have HXS:=Lib.hid hXs
 clear hR hCP h hx hC hs ok sm ex ey hLa hLl hF hcell hC2 hL hXs
 unfold maxLen at hcm
 have hn:lc.length≤cc:=by omega
 generalize x.d=X at*
 obtain ⟨W0,hW0⟩:∃W0,W0=(((w.alloc (.cells #[.slice A l.length c] 40)).alloc (.cells #[.int .i64 x.n, .slice Ax x.b.length cx, .slice Ay x.items.length cy] 35)).alloc (.cells #[.int .i64 0, .slice none 0 0, .slice none 0 0] 35)):=⟨_,rfl⟩
 have hb0:Below w.heap.size w W0:=by rw [hW0];exact (((Below.refl w.heap.size w).alloc (Nat.le_refl _) _).alloc (by simp) _).alloc (by simp;omega) _
 have hz0:W0.heap.size=w.heap.size+3:=by rw [hW0];simp
 have s0:W0.cell? ⟨w.heap.size,0,none⟩=some (.slice A l.length c):=by rw [hW0];simp [go_sem]
 have v0:W0.cell? ⟨w.heap.size+1,0,none⟩=some (.int .i64 x.n):=by rw [hW0];simp [go_sem]
 have v1:W0.cell? ⟨w.heap.size+1,1,none⟩=some (.slice Ax x.b.length cx):=by rw [hW0];simp [go_sem]
 have v2:W0.cell? ⟨w.heap.size+1,2,none⟩=some (.slice Ay x.items.length cy):=by rw [hW0];simp [go_sem]
 have HR3:B3 W0 (w.heap.size+1+1) (.int .i64 0) (.slice none 0 0) (.slice none 0 0):=by
  rw [hW0]
  have:=B3.new ((w.alloc (.cells #[.slice A l.length c] 40)).alloc (.cells #[.int .i64 x.n, .slice Ax x.b.length cx, .slice Ay x.items.length cy] 35)) (.int .i64 0) (.slice none 0 0) (.slice none 0 0) 35
  simpa using this
 generalize l.length=nl at*
 go_enter Tryz.func9,Tryz.ntmps9
 go_upto_region 1 with fail
 rw [←hW0]
 clear hW0
 go_wp2_with fail
 refine (HCP.out _ hb0).mono ?_
 rintro e w1 ⟨v,rfl,ho,bel⟩
 obtain ⟨A1,c1,A2,c2,rfl⟩:=ho.agg
 obtain ⟨W2,hW2⟩:∃W2,W2=w1.alloc (.cells #[.int .i64 X.n, .slice A1 X.b.length c1, .slice A2 X.items.length c2] 35):=⟨_,rfl⟩
 have h12:Below w1.heap.size w1 W2:=by rw [hW2];exact (Below.refl _ _).alloc (Nat.le_refl _) _
 have b02:=bel.trans (h12.mono bel.size)
 have zB:B3 W2 w1.heap.size (.int .i64 X.n) (.slice A1 X.b.length c1) (.slice A2 X.items.length c2):=by rw [hW2];exact B3.new w1 _ _ _ _
 have ho2:=ho.bel h12
 have hz1:=bel.size
 obtain ⟨gO,hgO⟩:∃g,g=w1.heap.size:=⟨_,rfl⟩
 rw [←hgO] at zB
 have hg0:w.heap.size+3≤gO:=by omega
 have HS0:=Lib.hid (And.intro s0 (And.intro v0 (And.intro v1 (And.intro v2 HR3))))
 have HB0:=Lib.hid hb0
 have h00:∃(Y:Val) (A1:Option Addr) (c1:Nat) (A2:Option Addr) (c2 lo hi:Nat),B3 W2 gO (.int .i64 Y.n) (.slice A1 Y.b.length c1) (.slice A2 Y.items.length c2)∧Hid (OwV Y lo hi W2 (.agg #[.int .i64 Y.n, .slice A1 Y.b.length c1, .slice A2 Y.items.length c2])∧(hi≤gO∨gO < lo)∧W0.heap.size≤lo∧hi≤W2.heap.size∧applyV D X (L.drop 0) Y=(FX,FB)∧Y.size+chSizes (L.drop 0)≤2097152)∧Below W0.heap.size W0 W2:=
  ⟨X,A1,c1,A2,c2,W0.heap.size,w1.heap.size,zB,Lib.hid ⟨ho2, .inl (by omega),Nat.le_refl _,h12.size,HF.out⟩,b02⟩
 clear ho bel h12 b02 zB ho2 hz1 s0 v0 v1 v2 HR3 hb0 HF HCP
 go_upto_region 2 with fail
 rw [←hW2,←hgO]
 clear hW2 hgO
 go_wp2_with fail
 go_loopw [9] (fun i wr=> ∃k:Nat,k≤lc.length∧i= .int .i64 k∧∃(Y:Val) (A1:Option Addr) (c1:Nat) (A2:Option Addr) (c2 lo hi:Nat),B3 wr gO (.int .i64 Y.n) (.slice A1 Y.b.length c1) (.slice A2 Y.items.length c2)∧Hid (OwV Y lo hi wr (.agg #[.int .i64 Y.n, .slice A1 Y.b.length c1, .slice A2 Y.items.length c2])∧(hi≤gO∨gO < lo)∧W0.heap.size≤lo∧hi≤wr.heap.size∧applyV D X (L.drop k) Y=(FX,FB)∧Y.size+chSizes (L.drop k)≤2097152)∧Below W0.heap.size W0 wr) (fun i _=> lc.length - (intOf i).toNat)
 case atStart=> exact ⟨0,Nat.zero_le _,rfl,h00⟩
 case round=>
  clear h00
  obtain ⟨k,hk,rfl,Y,A1,c1,A2,c2,lo,hi,zB,HO,b0⟩:=hrel
  by_cases hlt:k < lc.length
  ·obtain ⟨b,off,hA,hbB,d0,d1,d2,d3⟩:=HCE.out.1 k hlt
   subst hA
   have hdr:=HLA.out k hlt
   have hmem:=List.getElem_mem hlt
   have hrk:=HCE.out.2 _ hmem
   have hpd:=CM.d_path lc[k]
   generalize lc[k]=ck at*
   obtain ⟨Ap,cp,ep, -⟩:=hrk.bytes.open_
   obtain ⟨Aq,cq,eq, -⟩:=hrk.its.open_
   rw [ep] at d2
   rw [eq] at d3
   have bw:=HB0.out.trans (b0.mono HB0.out.size)
   have hbm:=bw.mono hB
   have d0:=(hbm.cell (p:=⟨b,off+k*4,none⟩) hbB).trans d0
   have d1:=(hbm.cell (p:=⟨b,off+k*4+1,none⟩) hbB).trans d1
   have d2:=(hbm.cell (p:=⟨b,off+k*4+2,none⟩) hbB).trans d2
   have d3:=(hbm.cell (p:=⟨b,off+k*4+3,none⟩) hbB).trans d3
   have s1:=cell_later b0 HS0.out.1
   have hzw:=b0.size
   obtain ⟨ho,hsep,hlo,hhi,hap,hsz⟩:=HO.out
   obtain ⟨y,hyd,hyv,hyr⟩:=ho.rd
   obtain ⟨EY,EB,hE⟩:∃a b,chgV D Y ck.d=(a,b):=⟨_,_,rfl⟩
   have hEs:=chgV_size D Y ck.d
   rw [hE] at hEs
   have hCR:=fun W (hb:Below wr.heap.size wr W)=> HR.out y ck wr W hmem bw hb hyr (by rw [hyd];omega)
   rw [hyd,hE,←hyv] at hCR
   unfold vmV at hCR
   rw [ep,eq] at hCR
   have HCR:=Lib.hid hCR
   rw [hdr] at hap hsz
   have HE:=Lib.hid (And.intro hE (And.intro hap (And.intro hsz hEs)))
   have HM:=Lib.hid bw
   have o0:=zB.c0
   have o1:=zB.c1
   have o2:=zB.c2
   have HZ:=Lib.hid (And.intro zB (And.intro b0 (HO.out.2.2.1)))
   clear zB b0
   clear HO ho hsep hlo hhi hap hsz hyd hyv hyr hE hEs hCR hmem hrk hpd ep eq bw hbm hdr HR HCE
   go_upto_region 5 with fail
   go_cut [10,11] from 14 to 40 (fun s10 s11 wx=> ∃(bq:Nat) (A1:Option Addr) (c1:Nat) (A2:Option Addr) (c2 lo hi:Nat),s10= .pointer (some ⟨bq,0,none⟩)∧s11= .bool EB∧B3 wx bq (.int .i64 EY.n) (.slice A1 EY.b.length c1) (.slice A2 EY.items.length c2)∧OwV EY lo hi wx (.agg #[.int .i64 EY.n, .slice A1 EY.b.length c1, .slice A2 EY.items.length c2])∧wr.heap.size≤lo∧hi≤wx.heap.size∧wr.heap.size≤bq∧Below wr.heap.size wr wx)
   case first=>
    have bq:=(Below.refl wr.heap.size wr).drew
    go_wp2_with fail
    refine wp_region_held_drew (S:=(fun w9=> w9.cell? ⟨w.heap.size,0,none⟩=some (.slice A nl c)∧w9.cell? ⟨gO,0,none⟩=some (.int .i64 Y.n)∧w9.cell? ⟨gO,1,none⟩=some (.slice A1 Y.b.length c1)∧w9.cell? ⟨gO,2,none⟩=some (.slice A2 Y.items.length c2)∧w9.cell? ⟨b,off+k*4,none⟩=some (.string ck.path)∧w9.cell? ⟨b,off+k*4+1,none⟩=some (.int .i64 ck.part.n)∧w9.cell? ⟨b,off+k*4+2,none⟩=some (.slice Ap ck.part.b.length cp)∧w9.cell? ⟨b,off+k*4+3,none⟩=some (.slice Aq ck.part.items.length cq))) (by kernel_rfl) ?_ (fun hHeld=> ?_)
    ·(try dsimp only);exact ⟨s1,o0,o1,o2,d0,d1,d2,d3⟩
    refine rgTake 0 (some 21) hHeld _ ?_;try go_frame
    refine rgTake 1 (some 22) hHeld _ ?_;try go_frame
    refine rgTake 2 (some 23) hHeld _ ?_;try go_frame
    refine rgTake 3 (some 24) hHeld _ ?_;try go_frame
    refine rgTake 4 (some 25) hHeld _ ?_;try go_frame
    refine rgTake 5 (some 26) hHeld _ ?_;try go_frame
    refine rgTake 6 (some 27) hHeld _ ?_;try go_frame
    refine rgTake 7 (some 28) hHeld _ ?_;try go_frame
    refine rgTake 8 (some 29) hHeld _ ?_;try go_frame
    refine rgTake 9 (some 30) hHeld _ ?_;try go_frame
    refine rgTake 10 (some 31) hHeld _ ?_;try go_frame
    refine rgTake 11 (some 32) hHeld _ ?_;try go_frame
    refine rgTwo 12 16 (fun K hK=> ?_) (fun K hK=> ?_)
    ·go_simp
     refine (HCR.out _ bq).mono ?_;rintro e wq ⟨vr,rfl,own_r,bel⟩;have hlo:=bq.size;have bq:=below_step bel bq;(try have hgr:=zB.lt);(try have zB:=zB.later bel);obtain ⟨Ar1,cr1,Ar2,cr2,rfl⟩:=own_r.agg
     (try go_wp2_with fail)
     refine hK.out _ _ ?_ (fun hHeld=> ?_)
     ·(try dsimp only);exact ⟨cell_later bq s1,cell_later bq o0,cell_later bq o1,cell_later bq o2,cell_later bq d0,cell_later bq d1,cell_later bq d2,cell_later bq d3⟩
     clear hK K
     try go_frame
     refine rgTake 13 (some 20) hHeld _ ?_;try go_frame
     refine rgTake 14 (some 34) hHeld _ ?_;try go_frame
     refine rgTake 15 (some 35) hHeld _ ?_;try go_frame
     refine rgStep 16 (fun K hK=> ?_)
     (try go_simp)
     have hge:=bq.size;first|(have zB:=b3_zero bq;have bq:=bq.alloc bq.size zO;(try have own_r:=own_r.bal zO);generalize wq.alloc zO=wa at*)|(have zB:B3 (wr.alloc zO).drew wr.heap.size (.int .i64 0) (.slice none 0 0) (.slice none 0 0):=b3_zero bq;have bq:Below wr.heap.size wr (wr.alloc zO).drew:=bq.alloc bq.size zO;generalize (wr.alloc zO).drew=wa at*)
     refine hK.out _ _ ?_ (fun hHeld=> ?_)
     ·(try dsimp only);exact ⟨cell_later bq s1,cell_later bq o0,cell_later bq o1,cell_later bq o2,cell_later bq d0,cell_later bq d1,cell_later bq d2,cell_later bq d3⟩
     clear hK K
     try go_frame
     refine rgStep 17 (fun K hK=> ?_)
     (try go_simp)
     have own_r:=own_r.set3 (by first|exact .inr hgr|exact .inl (Nat.le_refl _)) (.int .i64 EY.n) (.slice Ar1 EY.b.length cr1) (.slice Ar2 EY.items.length cr2);have bq:=below_set3 bq hge (.int .i64 EY.n) (.slice Ar1 EY.b.length cr1) (.slice Ar2 EY.items.length cr2);have zB0:=zB;obtain ⟨zl,z0,z1,z2,y0,y1,y2⟩:=zB0;go_simp;have zB:=zB.set (.int .i64 EY.n) (.slice Ar1 EY.b.length cr1) (.slice Ar2 EY.items.length cr2)
     refine hK.out _ _ ?_ (fun hHeld=> ?_)
     ·(try dsimp only);exact ⟨cell_later bq s1,cell_later bq o0,cell_later bq o1,cell_later bq o2,cell_later bq d0,cell_later bq d1,cell_later bq d2,cell_later bq d3⟩
     clear hK K
     try go_frame
     refine rgTake 18 (some 11) hHeld _ ?_;try go_frame
     refine wpAnyH_done (by kernel_rfl) ?_ _
     go_wp2_with fail
     go_meet
     exact ⟨_,_,_,_,_,_,_,rfl,rfl,zB,own_r,hlo,(by first|exact Nat.le_of_lt zB.lt|simp),hge,bq⟩
    ·(try go_simp)
     have hge:=bq.size;first|(have zB:=b3_zero bq;have bq:=bq.alloc bq.size zO;(try have own_r:=own_r.bal zO);generalize wq.alloc zO=wa at*)|(have zB:B3 (wr.alloc zO).drew wr.heap.size (.int .i64 0) (.slice none 0 0) (.slice none 0 0):=b3_zero bq;have bq:Below wr.heap.size wr (wr.alloc zO).drew:=bq.alloc bq.size zO;generalize (wr.alloc zO).drew=wa at*)
     refine hK.out _ _ ?_ (fun hHeld=> ?_)
     ·(try dsimp only);exact ⟨cell_later bq s1,cell_later bq o0,cell_later bq o1,cell_later bq o2,cell_later bq d0,cell_later bq d1,cell_later bq d2,cell_later bq d3⟩
     clear hK K
     try go_frame
     refine rgStep 12 (fun K hK=> ?_)
     go_simp
     refine (HCR.out _ bq).mono ?_;rintro e wq ⟨vr,rfl,own_r,bel⟩;have hlo:=bq.size;have bq:=below_step bel bq;(try have hgr:=zB.lt);(try have zB:=zB.later bel);obtain ⟨Ar1,cr1,Ar2,cr2,rfl⟩:=own_r.agg
     (try go_wp2_with fail)
     refine hK.out _ _ ?_ (fun hHeld=> ?_)
     ·(try dsimp only);exact ⟨cell_later bq s1,cell_later bq o0,cell_later bq o1,cell_later bq o2,cell_later bq d0,cell_later bq d1,cell_later bq d2,cell_later bq d3⟩
     clear hK K
     try go_frame
     refine rgTake 13 (some 20) hHeld _ ?_;try go_frame
     refine rgTake 14 (some 34) hHeld _ ?_;try go_frame
     refine rgTake 15 (some 35) hHeld _ ?_;try go_frame
     refine rgStep 17 (fun K hK=> ?_)
     (try go_simp)
     have own_r:=own_r.set3 (by first|exact .inr hgr|exact .inl (Nat.le_refl _)) (.int .i64 EY.n) (.slice Ar1 EY.b.length cr1) (.slice Ar2 EY.items.length cr2);have bq:=below_set3 bq hge (.int .i64 EY.n) (.slice Ar1 EY.b.length cr1) (.slice Ar2 EY.items.length cr2);have zB0:=zB;obtain ⟨zl,z0,z1,z2,y0,y1,y2⟩:=zB0;go_simp;have zB:=zB.set (.int .i64 EY.n) (.slice Ar1 EY.b.length cr1) (.slice Ar2 EY.items.length cr2)
     refine hK.out _ _ ?_ (fun hHeld=> ?_)
     ·(try dsimp only);exact ⟨cell_later bq s1,cell_later bq o0,cell_later bq o1,cell_later bq o2,cell_later bq d0,cell_later bq d1,cell_later bq d2,cell_later bq d3⟩
     clear hK K
     try go_frame
     refine rgTake 18 (some 11) hHeld _ ?_;try go_frame
     refine wpAnyH_done (by kernel_rfl) ?_ _
     go_wp2_with fail
     go_meet
     exact ⟨_,_,_,_,_,_,_,rfl,rfl,zB,own_r,hlo,(by first|exact Nat.le_of_lt zB.lt|simp),hge,bq⟩
   case rest=>
    obtain ⟨bq,Ae,ce,Af,cf,le,he,rfl,rfl,zE,hoE,hloE,hheE,hgeE,bE⟩:=hcut
    have bW:=below_step bE HZ.out.2.1
    have zO:=HZ.out.1.later bE
    clear s1 d0 d1 d2 d3 o0 o1 o2 HCR
    cases EB
    ·have HX:=Lib.hid (show FX=X∧FB=false from by
      have:=HE.out.2.1
      rw [applyV_no _ HE.out.1] at this
      cases this
      exact ⟨rfl,rfl⟩)
     obtain ⟨s0,v0,v1,v2,RB⟩:=HS0.out
     have v0:=cell_later bW v0
     have v1:=cell_later bW v1
     have v2:=cell_later bW v2
     have RB:=RB.later bW
     have bw:=HB0.out.trans (bW.mono HB0.out.size)
     have hz9:=bW.size
     clear zE hoE hloE hheE hgeE bE bW zO HE s0 HM HZ
     go_wp2_with fail
     refine (HCP1.out _ bw).mono ?_
     rintro e wd ⟨vc,rfl,hoc,belc⟩
     have HB:=Lib.hid (below_step belc bw)
     have RB:=RB.later belc
     obtain ⟨Ac,cc,Ac',cc',rfl⟩:=hoc.agg
     have HO:=Lib.hid hoc
     have HZ:=Lib.hid belc.size
     clear hoc belc bw v0 v1 v2
     obtain ⟨lt,t0,t1,t2,f0,f1,f2⟩:=RB
     go_wp2
     obtain ⟨rfl,rfl⟩:=HX.out
     refine bodyPost_ret (v:= .tuple #[.agg #[.int .i64 FX.n, .slice Ac FX.b.length cc, .slice Ac' FX.items.length cc'], .bool false]) (by simp [results,Tryz.results9,go_sem,t0,t1,t2]) rfl ⟨_,rfl,?_,below_set3 HB.out (by omega) _ _ _⟩
     have hz:=HZ.out
     refine (HO.out.set3 (g:=w.heap.size+1+1) (.inr (by omega)) _ _ _).wide (by omega) (by simp)
    ·have HX:=Lib.hid (show applyV D X (L.drop (k+1)) EY=(FX,FB)∧EY.size+chSizes (L.drop (k+1))≤2097152 from by
      have h1:=HE.out.2.1
      rw [applyV_yes _ HE.out.1] at h1
      have h2:=HE.out.2.2.1
      have h3:=HE.out.2.2.2
      rw [chSizes] at h2
      unfold ChD.size at h2
      dsimp only at h3
      exact ⟨h1,by omega⟩)
     have hgl:=HZ.out.1.lt
     have hlt2:=zO.lt
     have HN:=Lib.hid (And.intro (hoE.set3 (g:=gO) (.inr (by omega)) (.int .i64 EY.n) (.slice Ae EY.b.length ce) (.slice Af EY.items.length cf)) (And.intro (zO.set (.int .i64 EY.n) (.slice Ae EY.b.length ce) (.slice Af EY.items.length cf)) (And.intro (below_set3 bW (show W0.heap.size≤gO by omega) (.int .i64 EY.n) (.slice Ae EY.b.length ce) (.slice Af EY.items.length cf)) (And.intro (show gO < le by omega) (And.intro (show W0.heap.size≤le by omega) hheE)))))
     obtain ⟨zl,z0,z1,z2,y0,y1,y2⟩:=zO
     obtain ⟨el,e0,e1,e2, -, -, -⟩:=zE
     clear hoE hloE hheE hgeE bE bW HE HM HZ
     go_wp2
     go_roundw
     case rel=> exact ⟨k+1,by omega,by go_num,EY,Ae,ce,Af,cf,le,he,HN.out.2.1,Lib.hid ⟨HN.out.1, .inr HN.out.2.2.2.1,HN.out.2.2.2.2.1,by simp;exact HN.out.2.2.2.2.2,HX.out⟩,HN.out.2.2.1⟩
     case measure=> simp [intOf];omega
  ·have hkl:k=lc.length:=by omega
   obtain ⟨ho,hsep,hlo,hhi,hap,hsz⟩:=HO.out
   rw [hkl,←HLl.out,List.drop_length,applyV] at hap
   have HX:=Lib.hid hap
   have HOO:=Lib.hid (And.intro ho (And.intro hlo hhi))
   have RB:=HS0.out.2.2.2.2.later b0
   have HB:=Lib.hid (HB0.out.trans (b0.mono HB0.out.size))
   have hz:=b0.size
   clear HO ho hsep hlo hhi hap hsz HCE HR HLA b0
   obtain ⟨zl,z0,z1,z2,y0,y1,y2⟩:=zB
   obtain ⟨lt,t0,t1,t2,f0,f1,f2⟩:=RB
   go_wp2
   have hX:=HX.out
   cases hX
   refine bodyPost_ret (v:= .tuple #[.agg #[.int .i64 FX.n, .slice A1 FX.b.length c1, .slice A2 FX.items.length c2], .bool true]) (by simp [results,Tryz.results9,go_sem,t0,t1,t2,z0,z1,z2]) rfl ⟨_,rfl,?_,below_set3 HB.out (by omega) _ _ _⟩
   have ho:=HOO.out
   refine (ho.1.set3 (g:=w.heap.size+1+1) (.inr (by omega)) _ _ _).wide (by omega) (by simp;omega)
end Go.Proofs.YtipfacnmobineaaGreatDoor
