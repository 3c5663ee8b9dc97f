/- The walk of impl.InvertChanges. Conditions: the description reads as its rules, which are small; the value is owned by somebody and small; the changes read as their data and are small. -/
import Derived.Test.YtipfacnmobineaaGreatDoorGcc
import Derived.Test.YtipfacnmobineaaGreatDoorGcf
import Derived.Test.YtipfacnmobineaaGreatDoorGv
import Derived.Test.YtipfacnmobineaaGreatDoorGb
import Derived.Test.YtipfacnmobineaaGreatDoorGrb
import Derived.Test.YtipfacnmobineaaGreatDoorGce
import Derived.WalkSpells
import Derived.WalkLawsBesides
set_option linter.unusedSimpArgs false
set_option linter.unusedVariables false
namespace Go.Proofs.YtipfacnmobineaaGreatDoor
open Go.RowKit
set_option maxHeartbeats 4000000 in
set_option maxRecDepth 100000 in
theorem implInvert_any (vD:Value) (l:List RM) (x:VM) (lo:Nat) (vC:Value) (lc:List CM) (B:Nat) (w:World) (h:SlD w B vD l) (hB:B≤w.heap.size) (ok:∀r∈l,r.d.ok) (sm:∀r∈l,r.d.small 1048576) (hx:x.own lo w) (hC:SlC w B vC lc) (hs:x.d.size+chSizes (lc.map CM.d)≤2097152) (ht:Tab w):
  Calls Tryz.prog 22 #[.agg #[vD],vmV x,vC] w (Made (OwC (invV (l.map RM.d) (lc.map CM.d) x.d [])) w):=by
 obtain ⟨i0,hi,hz0',hz1',hz2'⟩:=info_parts Tryz.info_change
 have hcs:=chSizes_length (lc.map CM.d)
 rw [List.length_map] at hcs
 have hlc:lc.length≤2097152:=by omega
 clear hcs
 have hR:∀(y:VM) (lo:Nat) (c:CM) (wr W:World),c∈lc→Below w.heap.size w wr→Below wr.heap.size wr W→y.own lo wr→y.d.size≤4194304→
   Calls Tryz.prog 38 #[.agg #[vD],vmV y, .string c.path,vmV c.part] W (Made2 (OwV (chgV (l.map RM.d) y.d c.d).1) (.bool (chgV (l.map RM.d) y.d c.d).2) W):=fun y lo c wr W hc hb hb2 hy hys=> by
  have h1:=chSizes_mem (List.mem_map_of_mem (f:=CM.d) hc)
  unfold ChD.size at h1
  rw [CM.d_part,CM.d_path] at h1
  exact implRep_any vD l y c.part c.path wr.heap.size W ((h.below ((below_step hb2 hb).mono hB)).more (by have:=hb.size;omega)) hb2.size ok sm (hy.rd.bel hb2) hys (((hC.2 c hc).bel ((below_step hb2 hb).mono hB)).more (by have:=hb.size;omega)) (by omega) (by omega) (tab_on ht (below_step hb2 hb))
 have hF:∀(y:VM) (lo:Nat) (c:CM) (wr W:World),c∈lc→Below w.heap.size w wr→Below wr.heap.size wr W→y.own lo wr→y.d.size≤4194304→
   Calls Tryz.prog 49 #[.agg #[vD],vmV y, .string c.path] W (FindE (findV (l.map RM.d) y.d (spOk isStep c.path) (spL isStep c.path)) W):=fun y lo c wr W hc hb hb2 hy hys=> by
  have h1:=chSizes_mem (List.mem_map_of_mem (f:=CM.d) hc)
  unfold ChD.size at h1
  rw [CM.d_part,CM.d_path] at h1
  exact implFind_any vD l y lo c.path wr.heap.size W ((h.below ((below_step hb2 hb).mono hB)).more (by have:=hb.size;omega)) hb2.size ok sm (hy.keep fun g hg=> hb2.block g (hy.lt g hg).2) hys (by omega) (tab_on ht (below_step hb2 hb))
 have hC2:=hC.2
 obtain ⟨A,c,rfl, -, -, -⟩:=h.open_
 obtain ⟨Ac,cc,rfl,hcc,hcm,hcell⟩:=hC.open_
 obtain ⟨Ax,cx,ex⟩:=own_slice hx.bytes
 obtain ⟨Ay,cy,ey⟩:=own_slice hx.row
 unfold vmV
 rw [ex,ey]
 obtain ⟨L,hL⟩:∃L,L=lc.map CM.d:=⟨_,rfl⟩
 have hLl:L.length=lc.length:=by rw [hL,List.length_map]
 have hLa:∀k (hk:k < lc.length),L.drop k=lc[k].d::L.drop (k+1):=fun k hk=> by
  rw [List.drop_eq_getElem_cons (by rw [hLl];exact hk)]
  simp [hL]
 rw [←hL] at hs ⊢
 obtain ⟨FX,hFX⟩:∃a,invV (l.map RM.d) L x.d []=a:=⟨_,rfl⟩
 rw [hFX]
 generalize l.map RM.d=D at*
 have HR:=Lib.hid hR
 have HFP:=Lib.hid hF
 have HLA:=Lib.hid hLa
 have HLl:=Lib.hid hLl
 have HF:=Lib.hid (show invV D (L.drop 0) x.d (([]:List CM).map CM.d)=FX∧x.d.size+chSizes (L.drop 0)≤2097152 from ⟨by rw [List.drop_zero];exact hFX,by rw [List.drop_zero];exact hs⟩)
 have HCE:=Lib.hid (And.intro hcell hC2)
 have HXO:=Lib.hid (And.intro hx (And.intro ex ey))
 have HTab:=Lib.hid ht
 clear hR hF h hx hC hs ok sm hLa hLl hFX hcell hC2 hL ex ey ht
 unfold maxLen at hcm
 have hn:lc.length≤cc:=by omega
 have hby:i0.bytes*lc.length≤281474976710656:=by rw [hz2'];omega
 obtain ⟨W0,hW0⟩:∃W0,W0=((w.alloc (.cells #[.slice A l.length c] 40)).alloc (.cells #[.int .i64 x.n, .slice Ax x.b.length cx, .slice Ay x.items.length cy] 35)):=⟨_,rfl⟩
 have hb0:Below w.heap.size w W0:=by rw [hW0];exact ((Below.refl w.heap.size w).alloc (Nat.le_refl _) _).alloc (by simp) _
 have hz0:W0.heap.size=w.heap.size+2:=by rw [hW0];simp
 have s0:W0.cell? ⟨w.heap.size,0,none⟩=some (.slice A l.length c):=by rw [hW0];simp [go_sem]
 have v0:W0.cell? ⟨w.heap.size+1,0,none⟩=some (.int .i64 x.n):=by rw [hW0];simp [go_sem]
 have v1:W0.cell? ⟨w.heap.size+1,1,none⟩=some (.slice Ax x.b.length cx):=by rw [hW0];simp [go_sem]
 have v2:W0.cell? ⟨w.heap.size+1,2,none⟩=some (.slice Ay x.items.length cy):=by rw [hW0];simp [go_sem]
 generalize l.length=nl at*
 go_enter Tryz.func22,Tryz.ntmps22
 go_upto_region 1 with fail
 rw [←hW0]
 clear hW0
 go_upto_region 2 with (at_make;refine wpList_make_full _ rfl _ _ 43 rfl W0.heap.size 58 i0 (.agg #[.string ByteArray.empty, .int .i64 0, .slice none 0 0, .slice none 0 0]) 4 Tryz.underlying43 hi hz0' hz1' _ _ _ _ lc.length rfl rfl rfl rfl hby (by unfold maxLen;omega) (Nat.le_refl _) ?_;intro w1 hown hg)
 have hbel:Below W0.heap.size W0 w1:=below_grown hg (Nat.le_refl _) (by intro k hk;cases hk)
 obtain ⟨pre,hpre⟩:∃p,p=(madeCells (Value.cells (.agg #[.string ByteArray.empty, .int .i64 0, .slice none 0 0, .slice none 0 0])) (lc.length*4)).toList:=⟨_,rfl⟩
 rw [←hpre] at hown
 have hgl:=(hown.lt W0.heap.size rfl).2
 have hprl:pre.length=(lc.length - 0)*4:=by have:=hown.1;omega
 have v0:=cell_later hbel v0
 have v1:=cell_later hbel v1
 have v2:=cell_later hbel v2
 obtain ⟨W2,hW2⟩:∃W2,W2=w1.alloc (.cells #[.int .i64 x.n, .slice Ax x.b.length cx, .slice Ay x.items.length cy] 35):=⟨_,rfl⟩
 have h12:Below w1.heap.size w1 W2:=by rw [hW2];exact (Below.refl _ _).alloc (Nat.le_refl _) _
 have b02:=below_step h12 hbel
 have zB:B3 W2 w1.heap.size (.int .i64 x.n) x.vb x.vi:=by rw [hW2,HXO.out.2.1,HXO.out.2.2];exact B3.new w1 _ _ _ _
 obtain ⟨gO,hgO⟩:∃g,g=w1.heap.size:=⟨_,rfl⟩
 obtain ⟨gL,hgL⟩:∃g,g=W0.heap.size:=⟨_,rfl⟩
 have hgL2:gL=w.heap.size+2:=by omega
 have hg0:gL < gO:=by omega
 rw [←hgO] at zB
 have h00:∃(y:VM) (lo:Nat) (pre:List Value) (al:List CM),B3 W2 gO (.int .i64 y.n) y.vb y.vi∧Hid (y.own lo W2∧(∀g∈y.bks,g < w.heap.size∨gO < g)∧W2.ownsRow w.heap.size 58 4 (.slice (some ⟨gL,0,none⟩) lc.length lc.length) lc.length (pre++al.flatMap cmCells)∧(∀x∈al,x.part.own (gO+1) W2)∧(VM.bkss (al.map CM.part)).Nodup∧(∀g∈VM.bkss (al.map CM.part),gO < g∧g < W2.heap.size)∧pre.length=(lc.length - 0)*4∧invV D (L.drop 0) y.d (al.map CM.d)=FX∧y.d.size+chSizes (L.drop 0)≤2097152)∧Below W0.heap.size W0 W2:=by
  refine ⟨x,lo,pre, [],zB,Lib.hid ⟨?_,?_,?_,fun x hx=> by simp at hx,by simp [VM.bkss_nil],fun g hg=> by simp [VM.bkss_nil] at hg,hprl,HF.out⟩,b02⟩
  ·have hb:=below_step b02 hb0
   exact HXO.out.1.keep fun g hg=> hb.block g (HXO.out.1.lt g hg).2
  ·exact fun g hg=> .inl (HXO.out.1.lt g hg).2
  ·rw [List.flatMap_nil,List.append_nil,hgL]
   exact own_base (own_below hown h12 (Nat.le_refl _)) (by omega)
 have HS0:=Lib.hid s0
 have HB0:=Lib.hid hb0
 clear h12 b02 zB s0 hb0 HF hown hg hbel hpre hgl hprl hi hz0' hz1' hz2' hby
 go_upto_region 3 with fail
 rw [←hW2,←hgO]
 clear hW2 hgO v0 v1 v2
 rw [show w.heap.size+2=gL from hgL2.symm]
 have hgl1:w.heap.size+2≤gL:=by omega
 have hgl2:gL≤w.heap.size+2:=by omega
 clear hgL hgL2
 go_wp2_with fail
 go_loopw [22] (fun i wr=> ∃k:Nat,k≤lc.length∧i= .int .i64 k∧∃(y:VM) (lo:Nat) (pre:List Value) (al:List CM),B3 wr gO (.int .i64 y.n) y.vb y.vi∧Hid (y.own lo wr∧(∀g∈y.bks,g < w.heap.size∨gO < g)∧wr.ownsRow w.heap.size 58 4 (.slice (some ⟨gL,0,none⟩) lc.length lc.length) lc.length (pre++al.flatMap cmCells)∧(∀x∈al,x.part.own (gO+1) wr)∧(VM.bkss (al.map CM.part)).Nodup∧(∀g∈VM.bkss (al.map CM.part),gO < g∧g < wr.heap.size)∧pre.length=(lc.length - k)*4∧invV D (L.drop k) y.d (al.map CM.d)=FX∧y.d.size+chSizes (L.drop k)≤2097152)∧Below W0.heap.size W0 wr) (fun i _=> lc.length - (intOf i).toNat)
 case atStart=> exact ⟨0,Nat.zero_le _,rfl,h00⟩
 case round=>
  clear h00
  obtain ⟨k,hk,rfl,y,lo,pre,al,zB,HO,b0⟩:=hrel
  by_cases hlt:k < lc.length
  ·obtain ⟨b,off,hA,hbB,d0,d1,d2,d3⟩:=HCE.out.1 k hlt
   subst hA
   have hdr:=HLA.out k hlt
   have hmem:=List.getElem_mem hlt
   have hrk:=HCE.out.2 _ hmem
   generalize lc[k]=ck at*
   obtain ⟨Ap,cp,ep, -⟩:=hrk.bytes.open_
   obtain ⟨Aq,cq,eq, -⟩:=hrk.its.open_
   rw [ep] at d2
   rw [eq] at d3
   have bw:=HB0.out.trans (b0.mono HB0.out.size)
   have hbm:=bw.mono hB
   have d0:=(hbm.cell (p:=⟨b,off+k*4,none⟩) hbB).trans d0
   have d1:=(hbm.cell (p:=⟨b,off+k*4+1,none⟩) hbB).trans d1
   have d2:=(hbm.cell (p:=⟨b,off+k*4+2,none⟩) hbB).trans d2
   have d3:=(hbm.cell (p:=⟨b,off+k*4+3,none⟩) hbB).trans d3
   have s1:=cell_later b0 HS0.out
   have hzw:=b0.size
   obtain ⟨ho,hob,hrow,ha1,ha2,ha3,hpl,hap,hsz⟩:=HO.out
   obtain ⟨A1,c1,e1⟩:=own_slice ho.bytes
   obtain ⟨A2,c2,e2⟩:=own_slice ho.row
   rw [e1,e2] at zB
   obtain ⟨EY,EB,hE⟩:∃a b,chgV D y.d ck.d=(a,b):=⟨_,_,rfl⟩
   have hEs:=chgV_size D y.d ck.d
   rw [hE] at hEs
   obtain ⟨OY,OI,OB,hOY⟩:∃a b c,findV D y.d (spOk isStep ck.path) (spL isStep ck.path)=(a,b,c):=⟨_,_,_,rfl⟩
   have hold:oldV D y.d ck.d=⟨ck.path,OY⟩:=by unfold oldV;rw [CM.d_path,hOY]
   have hCF:=fun W (hb:Below wr.heap.size wr W)=> HFP.out y lo ck wr W hmem bw hb ho (by omega)
   have hCR:=fun W (hb:Below wr.heap.size wr W)=> HR.out y lo ck wr W hmem bw hb ho (by omega)
   rw [hE] at hCR
   rw [hOY] at hCF
   unfold vmV at hCR hCF
   rw [ep,eq,e1,e2] at hCR
   rw [e1,e2] at hCF
   have HCR:=Lib.hid hCR
   have HCF:=Lib.hid hCF
   rw [hdr] at hap hsz
   have HE:=Lib.hid (And.intro hE (And.intro hap (And.intro hsz (And.intro hEs hold))))
   have HA:=Lib.hid (And.intro hrow (And.intro ha1 (And.intro ha2 (And.intro ha3 hpl))))
   have o0:=zB.c0
   have o1:=zB.c1
   have o2:=zB.c2
   have HZ:=Lib.hid (And.intro zB b0)
   clear zB b0 HO ho hob hrow ha1 ha2 ha3 hpl hap hsz hE hEs hCR hCF hmem hrk ep eq bw hbm hdr HR HFP HCE hOY hold e1 e2
   have hcb:Below wr.heap.size wr (wr.alloc (.cells #[.string ck.path, .int .i64 ck.part.n, .slice Ap ck.part.b.length cp, .slice Aq ck.part.items.length cq] 58)):=(Below.refl _ _).alloc (Nat.le_refl _) _
   have HCB:=Lib.hid hcb
   have s1:=cell_later hcb s1
   have o0:=cell_later hcb o0
   have o1:=cell_later hcb o1
   have o2:=cell_later hcb o2
   obtain ⟨Wc,hWc⟩:∃W,W=wr.alloc (.cells #[.string ck.path, .int .i64 ck.part.n, .slice Ap ck.part.b.length cp, .slice Aq ck.part.items.length cq] 58):=⟨_,rfl⟩
   have p0:Wc.cell? ⟨wr.heap.size,0,none⟩=some (.string ck.path):=by rw [hWc];simp [go_sem]
   have p1:Wc.cell? ⟨wr.heap.size,1,none⟩=some (.int .i64 ck.part.n):=by rw [hWc];simp [go_sem]
   have p2:Wc.cell? ⟨wr.heap.size,2,none⟩=some (.slice Ap ck.part.b.length cp):=by rw [hWc];simp [go_sem]
   have p3:Wc.cell? ⟨wr.heap.size,3,none⟩=some (.slice Aq ck.part.items.length cq):=by rw [hWc];simp [go_sem]
   rw [←hWc] at s1 o0 o1 o2 HCB
   go_upto_region 6 with fail
   rw [←hWc]
   clear hWc hcb d0 d1 d2 d3
   go_wp2_with fail
   refine (HCF.out _ HCB.out).mono ?_
   rintro e wp ⟨vr,rfl,hoF,belF⟩
   obtain ⟨Af,cf,Ag,cg,rfl⟩:=hoF.agg
   obtain ⟨wf,hwf⟩:∃W,W=wp.alloc (.cells #[.int .i64 OY.n, .slice Af OY.b.length cf, .slice Ag OY.items.length cg] 35):=⟨_,rfl⟩
   have h8:Below wp.heap.size wp wf:=by rw [hwf];exact (Below.refl _ _).alloc (Nat.le_refl _) _
   have zF:B3 wf wp.heap.size (.int .i64 OY.n) (.slice Af OY.b.length cf) (.slice Ag OY.items.length cg):=by rw [hwf];exact B3.new wp _ _ _ _
   have bF:=below_step h8 belF
   have hoF:=hoF.bel h8
   have hcw:=HCB.out.size
   have hfp:=h8.size
   have s1:=cell_later bF s1
   have o0:=cell_later bF o0
   have o1:=cell_later bF o1
   have o2:=cell_later bF o2
   have p0:=cell_later bF p0
   have p1:=cell_later bF p1
   have p2:=cell_later bF p2
   have p3:=cell_later bF p3
   have hbF:=below_step bF HCB.out
   have HFF:=Lib.hid (And.intro zF (And.intro hoF hbF))
   go_upto_region 7 with fail
   rw [←hwf]
   clear hwf h8 zF belF bF hoF HCF
   go_wp2_with fail
   refine (HCR.out _ hbF).mono ?_
   rintro e wq ⟨vr,rfl,hoE,belE⟩
   obtain ⟨Ae,ce,Ah,ch,rfl⟩:=hoE.agg
   obtain ⟨we,hwe⟩:∃W,W=wq.alloc (.cells #[.int .i64 EY.n, .slice Ae EY.b.length ce, .slice Ah EY.items.length ch] 35):=⟨_,rfl⟩
   have h9:Below wq.heap.size wq we:=by rw [hwe];exact (Below.refl _ _).alloc (Nat.le_refl _) _
   have zE:B3 we wq.heap.size (.int .i64 EY.n) (.slice Ae EY.b.length ce) (.slice Ah EY.items.length ch):=by rw [hwe];exact B3.new wq _ _ _ _
   have bE:=below_step h9 belE
   have hoE:=hoE.bel h9
   have hfw:=hbF.size
   have heq:=h9.size
   have hqf:=belE.size
   have p0:=cell_later bE p0
   clear s1 o0 o1 o2 p1 p2 p3 belE h9 hbF HCR HCB
   go_upto_region 8 with fail
   rw [←hwe]
   clear hwe
   have bW:=below_step (below_step bE HFF.out.2.2) HZ.out.2
   cases EB
   ·have HX:=Lib.hid (show FX= [] from by
     have:=HE.out.2.1
     rw [invV_no _ _ HE.out.1] at this
     exact this.symm)
    have HB:=Lib.hid (HB0.out.trans (bW.mono HB0.out.size))
    clear zE hoE bE bW HE HZ HFF HA p0
    go_wp2
    go_ret
    rw [HX.out]
    exact ⟨_,rfl,OwC.nil rfl HB.out.size (by simp),HB.out.alloc HB.out.size _⟩
   ·have HX:=Lib.hid (show invV D (L.drop (k+1)) EY (⟨ck.path,OY⟩::al.map CM.d)=FX∧EY.size+chSizes (L.drop (k+1))≤2097152 from by
     have h1:=HE.out.2.1
     rw [invV_yes _ _ HE.out.1,HE.out.2.2.2.2] at h1
     have h2:=HE.out.2.2.1
     have h3:=HE.out.2.2.2.1
     rw [chSizes] at h2
     unfold ChD.size at h2
     (try dsimp only at h3)
     exact ⟨h1,by omega⟩)
    have bRW:=below_step bE HFF.out.2.2
    have zF:=HFF.out.1.later bE
    have f0:=zF.c0
    have f1:=zF.c1
    have f2:=zF.c2
    have hrow:=own_below HA.out.1 bRW (Nat.le_refl _)
    obtain ⟨j,hj⟩:∃j,lc.length - k=j+1:=⟨lc.length - k - 1,by omega⟩
    have hji:(lc.length:Int) - 1 - (k:Int)=(j:Int):=by omega
    have hjl:j < lc.length:=by omega
    have hpl:=HA.out.2.2.2.2
    rw [hj] at hpl
    have hsp:pre=pre.take (j*4)++pre.drop (j*4):=(List.take_append_drop _ _).symm
    have htl:(pre.take (j*4)).length=j*4:=by rw [List.length_take];omega
    have hdl:(pre.drop (j*4)).length=4:=by rw [List.length_drop];omega
    have hrow2:=hrow
    rw [hsp,List.append_assoc] at hrow2
    have hat:∀i,i < 4→∃u,we.cell? ⟨gL,j*4+i,none⟩=some u:=by
     intro i hi
     rw [hrow.cellAt (j*4+i) (by omega)]
     exact ⟨_,List.getElem?_eq_getElem (by rw [hrow.1];omega)⟩
    obtain ⟨q0,hq0⟩:=hat 0 (by omega)
    obtain ⟨q1,hq1⟩:=hat 1 (by omega)
    obtain ⟨q2,hq2⟩:=hat 2 (by omega)
    obtain ⟨q3,hq3⟩:=hat 3 (by omega)
    rw [Nat.add_zero] at hq0
    have g0:=hrow.frozenAt (j*4)
    have g1:=hrow.frozenAt (j*4+1)
    have g2:=hrow.frozenAt (j*4+2)
    have g3:=hrow.frozenAt (j*4+3)
    clear hat
    obtain ⟨W5,hW5⟩:∃W,W=((((we.setCell ⟨gL,j*4,none⟩ (.string ck.path)).setCell ⟨gL,j*4+1,none⟩ (.int .i64 OY.n)).setCell ⟨gL,j*4+2,none⟩ (.slice Af OY.b.length cf)).setCell ⟨gL,j*4+3,none⟩ (.slice Ag OY.items.length cg)):=⟨_,rfl⟩
    have e5:W5=putCells we gL (j*4) [.string ck.path, .int .i64 OY.n, .slice Af OY.b.length cf, .slice Ag OY.items.length cg]:=by rw [hW5];rfl
    go_upto_region 11 with fail
    rw [←hW5]
    clear hW5 hq0 hq1 hq2 hq3 g0 g1 g2 g3 f0 f1 f2 p0
    have hp:=own_putCells [.string ck.path, .int .i64 OY.n, .slice Af OY.b.length cf, .slice Ag OY.items.length cg] we (pre.take (j*4)) (pre.drop (j*4)++al.flatMap cmCells) (by rw [List.length_append,hdl];simp) hrow2
    rw [htl,←e5,show ([Value.string ck.path, .int .i64 OY.n, .slice Af OY.b.length cf, .slice Ag OY.items.length cg]:List Value).length=4 from rfl,List.drop_append_of_le_length (by omega),List.drop_of_length_le (by omega),List.nil_append] at hp
    have h5:Out gL (gL+1) we W5:=by rw [e5];exact Out.of_grown (grownBy_putCells (g:=gL) _ we (j*4)) (fun g hg=> by cases hg;omega)
    have hz5:W5.heap.size=we.heap.size:=by rw [e5];exact putCells_size gL _ we (j*4)
    have hz5a:W5.heap.size≤we.heap.size:=by omega
    have hz5b:we.heap.size≤W5.heap.size:=by omega
    have b5:Below W0.heap.size W0 W5:=by rw [e5];exact below_putCells _ we (j*4) bW (by omega)
    have hgl:=HZ.out.1.lt
    have zO:=HZ.out.1.later bRW
    have hkz:∀(g:Nat) (a b c:Value),B3 we g a b c→g≠gL→B3 W5 g a b c:=fun g a b c hz hne=> by
     have hb:=h5.block g hz.lt (by omega)
     have hc:∀o,W5.cell? ⟨g,o,none⟩=we.cell? ⟨g,o,none⟩:=fun o=> by rw [e5];exact putCells_cell (g:=gL) hne _ we (j*4) o
     have hf:∀o,W5.frozen? ⟨g,o,none⟩=we.frozen? ⟨g,o,none⟩:=fun o=> by unfold World.frozen?;rw [hb]
     exact ⟨by have:=hz.lt;omega,(hc 0).trans hz.c0,(hc 1).trans hz.c1,(hc 2).trans hz.c2,(hf 0).trans hz.f0,(hf 1).trans hz.f1,(hf 2).trans hz.f2⟩
    have zO5:=hkz _ _ _ _ zO (by omega)
    have zE5:=hkz _ _ _ _ zE (by omega)
    have hOt:Out gO (gO+1) W5 (((W5.setCell ⟨gO,0,none⟩ (.int .i64 EY.n)).setCell ⟨gO,1,none⟩ (.slice Ae EY.b.length ce)).setCell ⟨gO,2,none⟩ (.slice Ah EY.items.length ch)):=
     (((Out.refl _ _ _).setCell (Nat.le_refl _) (by omega) _).setCell (Nat.le_refl _) (by omega) _).setCell (Nat.le_refl _) (by omega) _
    have hoE5:=(hoE.keep h5 (.inr (by omega))).keep hOt (.inr (by omega))
    have hoF5:=((HFF.out.2.1.keep (Out.of_below bE 0 0) (.inr (Nat.zero_le _))).keep h5 (.inr (by omega))).keep hOt (.inr (by omega))
    have hzS:=zO5.set (.int .i64 EY.n) (.slice Ae EY.b.length ce) (.slice Ah EY.items.length ch)
    have hbS:=below_set3 b5 (show W0.heap.size≤gO by omega) (.int .i64 EY.n) (.slice Ae EY.b.length ce) (.slice Ah EY.items.length ch)
    obtain ⟨ey,heyd,heyv,hey⟩:=hoE5
    unfold vmV at heyv
    simp only [Value.agg.injEq,Array.mk.injEq,List.cons.injEq,and_true,Value.int.injEq,true_and] at heyv
    obtain ⟨hv0,hv1,hv2⟩:=heyv
    obtain ⟨oy,hoyd,hoyv,hoy⟩:=hoF5
    unfold vmV at hoyv
    simp only [Value.agg.injEq,Array.mk.injEq,List.cons.injEq,and_true,Value.int.injEq,true_and] at hoyv
    obtain ⟨hu0,hu1,hu2⟩:=hoyv
    have hcm:cmCells ⟨ck.path,oy⟩= [.string ck.path, .int .i64 OY.n, .slice Af OY.b.length cf, .slice Ag OY.items.length cg]:=by unfold cmCells;rw [←hu0,←hu1,←hu2]
    have hrS:(((W5.setCell ⟨gO,0,none⟩ (.int .i64 EY.n)).setCell ⟨gO,1,none⟩ (.slice Ae EY.b.length ce)).setCell ⟨gO,2,none⟩ (.slice Ah EY.items.length ch)).ownsRow w.heap.size 58 4 (.slice (some ⟨gL,0,none⟩) lc.length lc.length) lc.length (pre.take (j*4)++((⟨ck.path,oy⟩::al:List CM)).flatMap cmCells):=by
     rw [List.flatMap_cons,hcm,←List.append_assoc]
     exact own_row_keep hp fun g hg=> by
      have:g=gL:=by have h:gL=g:=by simpa [Value.ownBlock] using hg
                    exact h.symm
      subst this
      exact hOt.block g (by omega) (by omega)
    have hal:∀z∈(⟨ck.path,oy⟩::al:List CM),z.part.own (gO+1) (((W5.setCell ⟨gO,0,none⟩ (.int .i64 EY.n)).setCell ⟨gO,1,none⟩ (.slice Ae EY.b.length ce)).setCell ⟨gO,2,none⟩ (.slice Ah EY.items.length ch)):=fun z hz=> by
     rw [List.mem_cons] at hz
     rcases hz with rfl|hz
     ·exact hoy.own.base (by omega)
     ·have h1:=HA.out.2.1 z hz
      have hr:∀g∈z.part.bks,gO < g∧g < wr.heap.size:=fun g hg=> HA.out.2.2.2.1 g (VM.mem_bkss (List.mem_map_of_mem hz) hg)
      refine h1.keep fun g hg=> ?_
      have hg':=hr g hg
      have k1:=bRW.block g hg'.2
      have k2:=h5.block g (by omega) (by omega)
      have k3:=hOt.block g (by omega) (by omega)
      rw [k3,k2,k1]
    have hnd:(VM.bkss ((⟨ck.path,oy⟩::al:List CM).map CM.part)).Nodup:=by
     rw [List.map_cons,VM.bkss_cons,List.nodup_append]
     refine ⟨hoy.nd,HA.out.2.2.1,fun a h1 b' h2 e=> ?_⟩
     have:=hoy.rng a h1
     have:=HA.out.2.2.2.1 b' h2
     omega
    have hrg:∀g∈VM.bkss ((⟨ck.path,oy⟩::al:List CM).map CM.part),gO < g∧g < W5.heap.size:=fun g hg=> by
     rw [List.map_cons,VM.bkss_cons,List.mem_append] at hg
     rcases hg with hg|hg
     ·have:=hoy.rng g hg;omega
     ·have:=HA.out.2.2.2.1 g hg;omega
    have HQ:=Lib.hid (And.intro hzS (And.intro hbS (And.intro hey (And.intro hrS (And.intro hal (And.intro hnd (And.intro hrg (And.intro heyd (And.intro hoyd (And.intro hv0 (And.intro hv1 hv2)))))))))))
    have HL2:=Lib.hid (show (pre.take (j*4)).length=(lc.length - (k+1))*4 by rw [htl];congr 1;omega)
    obtain ⟨zl,z0,z1,z2,y0,y1,y2⟩:=zO5
    obtain ⟨el,e0,e1,e2, -, -, -⟩:=zE5
    clear hoE bW bRW bE hp h5 hz5 b5 zO hkz hOt hzS hbS hey hrS hal hnd hrg heyd hoyd hv0 hv1 hv2 hu0 hu1 hu2 hcm hoy e5 zE zF hrow hrow2 hsp htl hdl hpl HE HZ HFF HA
    go_wp2
    go_roundw
    case rel=>
     obtain ⟨a1,a2,a3,a4,a5,a6,a7,a8,a9,a10,a11,a12⟩:=HQ.out
     refine ⟨k+1,by omega,by go_num,ey,_,pre.take (j*4),⟨ck.path,oy⟩::al,?_,Lib.hid ⟨a3.own,fun g hg=> .inr ?_,a4,a5,a6,?_,HL2.out,?_,?_⟩,a2⟩
     ·rw [←a10,←a11,←a12];exact a1
     ·have:=a3.rng g hg;omega
     ·simpa using a7
     ·rw [List.map_cons,a8];unfold CM.d;rw [a9];exact HX.out.1
     ·rw [a8];exact HX.out.2
    case measure=> simp [intOf];omega
  ·have hkl:k=lc.length:=by omega
   obtain ⟨ho,hob,hrow,ha1,ha2,ha3,hpl,hap,hsz⟩:=HO.out
   rw [hkl,←HLl.out,List.drop_length,invV] at hap
   rw [hkl,Nat.sub_self,Nat.zero_mul] at hpl
   rw [List.eq_nil_of_length_eq_zero hpl,List.nil_append] at hrow
   have hln:al.length=lc.length:=by
    have:=hrow.1
    rw [flatMap_len cmCells 4 cmCells_length] at this
    omega
   have hz:=b0.size
   have hgo:=zB.lt
   have hCC:OwC FX w.heap.size wr.heap.size wr (.slice (some ⟨gL,0,none⟩) lc.length lc.length):=by
    refine ⟨al,hap,by rw [hln];exact hrow,fun x hx=> (ha1 x hx).base (by omega),?_,fun g hg=> ?_⟩
    ·rw [List.nodup_append]
     refine ⟨by simp [Value.ownBlock],ha2,fun a h1 b' h2 e=> ?_⟩
     simp [Value.ownBlock] at h1
     have:=ha3 b' h2
     omega
    ·rw [List.mem_append] at hg
     rcases hg with hg|hg
     ·simp [Value.ownBlock] at hg;omega
     ·have:=ha3 g hg;omega
   have HB:=Lib.hid (And.intro hCC (HB0.out.trans (b0.mono HB0.out.size)))
   clear HO ho hob hrow ha1 ha2 ha3 hpl hap hsz HCE HR HFP HLA b0 zB hCC hln
   go_wp2
   go_ret
   exact ⟨_,rfl,HB.out.1,HB.out.2⟩
end Go.Proofs.YtipfacnmobineaaGreatDoor
