/- The walk of the law FnSizes. No condition but those of its argument. -/
import Derived.Test.YteldgdelmaeokaaGsh
import Derived.Test.YteldgdelmaeokaaGse
import Derived.IntWalk
import Derived.WalkSpells
import Derived.WalkLawsBesides
import Derived.Deep.RegionHeld3
import Derived.Deep.DeepCutAuto
set_option linter.unusedSimpArgs false
set_option linter.unusedVariables false
namespace Go.Proofs.Yteldgdelmaeokaa.FnSizes
open Go.RowKit
set_option maxHeartbeats 4000000 in
set_option maxRecDepth 100000 in
theorem walk (v:Value) (l:List UInt8) (w:World) (h:SlB w w.heap.size v l):
  Calls Try.prog 3 #[v] w fun e w'=> e= .returned (.bool true)∧Below w.heap.size w w':=by
 obtain ⟨A0,c0,rfl,hcc⟩:=h.open_
 clear hcc
 by_cases hbig:1048576 < (l.length:Int)
 ·have HB:=Lib.hid hbig
  clear hbig
  go_enter Try.func3,Try.ntmps3
  go_wp2_with fail
  refine (big_any _ l _ w h).mono ?_
  rintro e w1 ⟨rfl,rfl⟩
  rw [decide_eq_true HB.out]
  go_wp2
  go_ret
  exact ⟨rfl,Below.refl _ _⟩
 have hl:l.length≤1048576:=by omega
 clear hbig
 go_enter Try.func3,Try.ntmps3
 go_wp2_with fail
 refine (big_any _ l _ w h).mono ?_
 rintro e w1 ⟨rfl,rfl⟩
 rw [decide_eq_false (show ¬(1048576 < (l.length:Int)) by omega)]
 go_wp2_with fail
 refine (drawValue_any _ l w h hl).mono ?_
 rintro e w1 ⟨A,c,L,x,rfl,hdr,hl1,hl6,hv,hsz,hsd,hx,hb1⟩
 have hlm:(L.map RM.d).length=L.length:=List.length_map ..
 have hok:∀r∈L,r.d.ok:=fun r hr=> hdr.ok (by omega) _ (List.mem_map_of_mem hr)
 have hsm:∀r∈L,r.d.small 1048576:=fun r hr=> hdr.small _ (List.mem_map_of_mem hr)
 have hvd:=hdr.valid (by omega) (by omega)
 have hcc:((L.length - 1:Nat):Int)=(L.length:Int) - 1:=by omega
 have hrd:=hx.rd
 have hlaw:=sizes_law hvd (k:=L.length - 1) (by omega) hv
 have hdk:∀i (hi:i < L.length) j (hj:j < L[i].d.kids.length),depOf (L.map RM.d) L[i].d.kids[j] < depOf (L.map RM.d) i:=fun i hi j hj=> by
  have:=dep_kid hvd (k:=i) (j:=j) (by omega) (by rw [List.getElem_map];exact hj)
  simp only [List.getElem_map] at this
  exact this
 have hEN:∀W,Below w1.heap.size w1 W→Calls Try.prog 6 #[.agg #[.slice A L.length c], .int .i64 ((L.length:Int) - 1),vmV x] W fun e w'=> e= .returned (.int .i64 (encN (L.map RM.d) ((L.length:Int) - 1) x.d))∧Below W.heap.size W w':=fun W hb=> by
  have:=encLen_any _ L (L.length - 1) x W.heap.size W ((hsd.below hb).more hb.size) (Nat.le_refl _) hok hsm hvd (by omega) hv ((hrd.bel hb).more hb.size) (by omega)
  rw [hcc] at this
  exact this
 have hMN:∀i W,Below w1.heap.size w1 W→Calls Try.prog 7 #[.agg #[.slice A L.length c], .int .i64 i] W fun e w'=> e= .returned (.int .i64 (minSz (L.map RM.d) i))∧Below W.heap.size W w':=fun i W hb=>
  implMinSize_any _ L i W.heap.size W ((hsd.below hb).more hb.size) (Nat.le_refl _) hok hsm
 have hMX:∀i W,Below w1.heap.size w1 W→Calls Try.prog 8 #[.agg #[.slice A L.length c], .int .i64 i] W fun e w'=> e= .returned (.int .i64 (maxSz (L.map RM.d) i))∧Below W.heap.size W w':=fun i W hb=>
  implMaxSize_any _ L i W.heap.size W ((hsd.below hb).more hb.size) (Nat.le_refl _) hok hsm
 have hFX:∀i W,Below w1.heap.size w1 W→Calls Try.prog 9 #[.agg #[.slice A L.length c], .int .i64 i] W fun e w'=> e= .returned (.bool (fixedB (L.map RM.d) i))∧Below W.heap.size W w':=fun i W hb=>
  implFixed_any _ L i W.heap.size W ((hsd.below hb).more hb.size) (Nat.le_refl _) hok hsm
 have hDP:∀i W,Below w1.heap.size w1 W→Calls Try.prog 10 #[.agg #[.slice A L.length c], .int .i64 i] W fun e w'=> e= .returned (.int .i64 (depOf (L.map RM.d) i))∧Below W.heap.size W w':=fun i W hb=>
  implDepth_any _ L i W.heap.size W ((hsd.below hb).more hb.size) (Nat.le_refl _) hok hsm
 have hCL:∀k (hk:k < L.length),∃b off A4 c4,A=some ⟨b,off,none⟩∧b < w1.heap.size∧L[k].d.kids.length≤maxLen∧(∀W,Below w1.heap.size w1 W→W.cell? ⟨b,off+k*8+7,none⟩=some (.slice A4 L[k].d.kids.length c4))∧
   ∀j (hj:j < L[k].d.kids.length),∃bk ok,A4=some ⟨bk,ok,none⟩∧bk < w1.heap.size∧∀W,Below w1.heap.size w1 W→W.cell? ⟨bk,ok+j,none⟩=some (.int .i64 L[k].d.kids[j]):=fun k hk=> by
  obtain ⟨b,off,A1,c1,A2,c2,A3,c3,A4,c4,e,hbB,e1,e2,e3,e4,m1,m2,m3,m4,hcell⟩:=rule_cells hsd k hk
  refine ⟨b,off,A4,c4,e,hbB,m4,fun W hb=> (hcell W (below_cells hb (Nat.le_refl _))).2.2.2.2.2.2.2,fun j hj=> ?_⟩
  obtain ⟨A',c',e', -, -,hc'⟩:=(hsd.2 _ (List.getElem_mem hk)).k.one
  rw [e4] at e'
  simp only [Value.slice.injEq] at e'
  obtain ⟨bb,oo,e5,hb5,h5⟩:=hc' j hj
  exact ⟨bb,oo,by rw [e'.1];exact e5,hb5,fun W hb=> cell_keep h5 hb hb5⟩
 have hfx:fixedB (L.map RM.d) ((L.length:Int) - 1)=true→minSz (L.map RM.d) ((L.length:Int) - 1)=maxSz (L.map RM.d) ((L.length:Int) - 1):=fun hf=> by
  unfold fixedB at hf
  simp only [Bool.and_eq_true,beq_iff_eq] at hf
  exact hf.2.1
 rw [hcc,hlm] at hlaw
 obtain ⟨hlo,hne,hmn0,hmx0⟩:=hlaw
 obtain ⟨Ax,cx,ex, -⟩:=hrd.bytes.open_
 obtain ⟨Bx,dx,fx, -⟩:=hrd.its.open_
 have hmd:=minSz_bd (L.map RM.d) ((L.length:Int) - 1)
 have hxd:=maxSz_bd (L.map RM.d) ((L.length:Int) - 1)
 unfold vmV at hEN ⊢
 rw [ex,fx] at hEN ⊢
 have HM0:=Lib.hid (And.intro hmn0 hmx0)
 have HEN:=Lib.hid hEN
 have HMN:=Lib.hid hMN
 have HMX:=Lib.hid hMX
 have HFX:=Lib.hid hFX
 have HDP:=Lib.hid hDP
 have HCL:=Lib.hid hCL
 have HDK:=Lib.hid hdk
 have HB1:=Lib.hid hb1
 clear hEN hMN hMX hFX hDP hCL hdk hb1 hmn0 hmx0 hrd hx hsd hdr hv hsz hok hsm hvd hcc hlm ex fx h
 generalize L.map RM.d=D at*
 generalize hn:encN D ((L.length:Int) - 1) x.d=n at*
 generalize hlow:minSz D ((L.length:Int) - 1)=lo at*
 generalize hhig:maxSz D ((L.length:Int) - 1)=hi at*
 generalize hfxb:fixedB D ((L.length:Int) - 1)=fb at*
 have HLO:=Lib.hid (fun W hb=> by have:=HMN.out ((L.length:Int) - 1) W hb;rw [hlow] at this;exact this:∀W,Below w1.heap.size w1 W→Calls Try.prog 7 #[.agg #[.slice A L.length c], .int .i64 ((L.length:Int) - 1)] W fun e w'=> e= .returned (.int .i64 lo)∧Below W.heap.size W w')
 have HHI:=Lib.hid (fun W hb=> by have:=HMX.out ((L.length:Int) - 1) W hb;rw [hhig] at this;exact this:∀W,Below w1.heap.size w1 W→Calls Try.prog 8 #[.agg #[.slice A L.length c], .int .i64 ((L.length:Int) - 1)] W fun e w'=> e= .returned (.int .i64 hi)∧Below W.heap.size W w')
 have HFB:=Lib.hid (fun W hb=> by have:=HFX.out ((L.length:Int) - 1) W hb;rw [hfxb] at this;exact this:∀W,Below w1.heap.size w1 W→Calls Try.prog 9 #[.agg #[.slice A L.length c], .int .i64 ((L.length:Int) - 1)] W fun e w'=> e= .returned (.bool fb)∧Below W.heap.size W w')
 clear hn hlow hhig hfxb HFX
 obtain ⟨W2,hW2⟩:∃V,V=(w1.alloc (.cells #[.slice A L.length c] 26)).alloc (.cells #[.int .i64 x.n, .slice Ax x.b.length cx, .slice Bx x.items.length dx] 29):=⟨_,rfl⟩
 have bW2:=Lib.hid (show Below w1.heap.size w1 W2 by rw [hW2];exact ((Below.refl w1.heap.size w1).alloc (Nat.le_refl _) _).alloc (by simp) _)
 have Kq:=Lib.hid (show Blk W2 (w1.heap.size) 26 #[.slice A L.length c] by rw [hW2];exact (Blk.new w1 _ _).alloc _)
 have Kx:=Lib.hid (show Blk W2 (w1.heap.size+1) 29 #[.int .i64 x.n, .slice Ax x.b.length cx, .slice Bx x.items.length dx] by rw [hW2];have:=Blk.new (w1.alloc (.cells #[.slice A L.length c] 26)) 29 #[.int .i64 x.n, .slice Ax x.b.length cx, .slice Bx x.items.length dx];simpa using this)
 have hz2:w1.heap.size+1 < W2.heap.size:=Kx.out.lt
 have hl1w:IntKind.i64.wrap ((L.length:Int) - 1)=(L.length:Int) - 1:=IntWalk.i64_in _ (by omega)
 have q0:W2.cell? ⟨w1.heap.size,0,none⟩=some (.slice A L.length c):=Kq.out.cell 0 rfl
 obtain ⟨⟨x0,x1,x2⟩, -⟩:=Kx.out.c3
 go_upto_region 4 with fail
 rw [←hW2]
 clear hW2
 go_wp2_with fail
 refine (HEN.out _ bW2.out).mono ?_
 rintro e w3 ⟨rfl,bel3⟩
 have b3:=below_step bel3 bW2.out
 have q0:w3.cell? ⟨w1.heap.size,0,none⟩=some (.slice A L.length c):=(Kq.out.below bel3).cell 0 rfl
 have H3:=Lib.hid (And.intro b3 bel3)
 clear b3 bel3 x0 x1 x2
 go_wp2_with fail
 refine (HLO.out _ H3.out.1).mono ?_
 rintro e w4 ⟨rfl,bel4⟩
 have b4:=below_step bel4 H3.out.1
 have B4:=below_step bel4 H3.out.2
 have q0:w4.cell? ⟨w1.heap.size,0,none⟩=some (.slice A L.length c):=(Kq.out.below B4).cell 0 rfl
 have H4:=Lib.hid (And.intro b4 B4)
 clear b4 B4 bel4
 go_wp2_with fail
 refine (HHI.out _ H4.out.1).mono ?_
 rintro e w5 ⟨rfl,bel5⟩
 have b5:=below_step bel5 H4.out.1
 have B5:=below_step bel5 H4.out.2
 have q0:w5.cell? ⟨w1.heap.size,0,none⟩=some (.slice A L.length c):=(Kq.out.below B5).cell 0 rfl
 have H5:=Lib.hid (And.intro b5 B5)
 clear b5 B5 bel5
 have hlo':¬(lo < 1):=by omega
 have hfin:∀W,Below W2.heap.size W2 W→W.cell? ⟨w1.heap.size,0,none⟩=some (.slice A L.length c):=fun W hb=> (Kq.out.below hb).cell 0 rfl
 have HFIN:=Lib.hid hfin
 clear hfin
 go_upto_region 8 with fail
 go_cut [61] (fun s61 wx=> ∃b:Bool,s61= .bool b∧Hid (b=false)∧Below W2.heap.size W2 wx)
 case first=>
  have HFXX:=Lib.hid hfx
  clear hmd hxd hfx
  by_cases hn0:0≤n
  ·obtain ⟨hna,hnb⟩:=hne hn0
   go_wp2_with fail
   refine (HFB.out _ H5.out.1).mono ?_
   rintro e w6 ⟨rfl,bel6⟩
   have H6:=Lib.hid (below_step bel6 H5.out.2)
   clear bel6
   cases fb
   ·go_wp2_with fail
    go_meet
    exact ⟨_,rfl,Lib.hid rfl,H6.out⟩
   ·have HNL:=Lib.hid (show n=lo by have:=HFXX.out rfl;omega)
    go_wp2_with fail
    go_meet
    exact ⟨_,rfl,Lib.hid (by simp [HNL.out]),H6.out⟩
  ·go_wp2_with fail
   refine (HFB.out _ H5.out.1).mono ?_
   rintro e w6 ⟨rfl,bel6⟩
   have H6:=Lib.hid (below_step bel6 H5.out.2)
   clear bel6
   cases fb
   ·go_wp2_with fail
    go_meet
    exact ⟨_,rfl,Lib.hid rfl,H6.out⟩
   ·go_wp2_with fail
    all_goals first|(exfalso;omega)|(go_meet;exact ⟨_,rfl,Lib.hid rfl,H6.out⟩)
 obtain ⟨b61,rfl,hb61,bel6⟩:=hcut
 rw [hb61.out]
 obtain ⟨w6,hWc⟩:∃W9:World,W9=wc:=⟨_,rfl⟩
 subst hWc
 have H6:=Lib.hid bel6
 have hz6:=bel6.size
 clear bel6 H3 H4 H5 q0 hne hfx hmd hxd HFB HHI HLO HEN hlo hlo'
 go_wp2_with fail
 go_loopw [9] (fun i wr=> ∃k:Nat,k≤L.length∧i= .int .i64 k∧Below W2.heap.size W2 wr) (fun i _=> L.length - (intOf i).toNat)
 case atStart=> exact ⟨0,Nat.zero_le _,rfl,H6.out⟩
 case round=>
  obtain ⟨k,hk,rfl,hb⟩:=hrel
  have hszr:=hb.size
  have bq:=below_step hb bW2.out
  have q0:=HFIN.out _ hb
  have HB:=Lib.hid (And.intro hb bq)
  clear hb bq H6
  by_cases hlt:k < L.length
  ·obtain ⟨b,off,A4,c4,rfl,hbb,hkm,hkc,hkk⟩:=HCL.out k hlt
   have HKC:=Lib.hid hkc
   have HKK:=Lib.hid hkk
   have HDJ:=Lib.hid (HDK.out k hlt)
   unfold maxLen at hkm
   clear hkc hkk HCL HDK
   generalize L[k].d.kids=ks at*
   go_wp2_with fail
   go_loopw [10] (fun i wr=> ∃j:Nat,j≤ks.length∧i= .int .i64 j∧Below W2.heap.size W2 wr) (fun i _=> ks.length - (intOf i).toNat)
   case atStart=> exact ⟨0,Nat.zero_le _,rfl,HB.out.1⟩
   case round=>
    obtain ⟨j,hj,rfl,hb⟩:=hrel
    clear q0 HB
    have hszr:=hb.size
    have bq:=below_step hb bW2.out
    have q0:=HFIN.out _ hb
    have x7:=HKC.out _ bq
    have HB:=Lib.hid (And.intro hb bq)
    clear hb bq
    by_cases hjl:j < ks.length
    ·obtain ⟨bk,ok,rfl,hbk,hkj⟩:=HKK.out j hjl
     have y0:=hkj _ HB.out.2
     have hdl:=HDJ.out j hjl
     generalize ks[j]=t at*
     generalize hd1:depOf D t=d1 at*
     generalize hd2:depOf D k=d2 at*
     have HD1:=Lib.hid (fun W hb=> by have:=HDP.out t W hb;rw [hd1] at this;exact this:∀W,Below w1.heap.size w1 W→Calls Try.prog 10 #[.agg #[.slice (some ⟨b,off,none⟩) L.length c], .int .i64 t] W fun e w'=> e= .returned (.int .i64 d1)∧Below W.heap.size W w')
     have HD2:=Lib.hid (fun W hb=> by have:=HDP.out k W hb;rw [hd2] at this;exact this:∀W,Below w1.heap.size w1 W→Calls Try.prog 10 #[.agg #[.slice (some ⟨b,off,none⟩) L.length c], .int .i64 k] W fun e w'=> e= .returned (.int .i64 d2)∧Below W.heap.size W w')
     have hdl':¬d2≤d1:=by omega
     have bq:=(Below.refl wr.heap.size wr).drew
     have bw:=HB.out.2.drew
     clear hd1 hd2 hkj
     go_wp2_with fail
     refine wp_region_held_drew (S:=(fun w9=> w9.cell? ⟨w1.heap.size,0,none⟩=some (.slice (some ⟨b,off,none⟩) L.length c)∧w9.cell? ⟨b,off+k*8+7,none⟩=some (.slice (some ⟨bk,ok,none⟩) ks.length c4)∧w9.cell? ⟨bk,ok+j,none⟩=some (.int .i64 t))) (by kernel_rfl) ?_ (fun hHeld=> ?_)
     ·(try dsimp only);exact ⟨q0,x7,y0⟩
     refine rgTake 0 (some 80) hHeld _ ?_;try go_frame
     refine rgTake 1 (some 81) hHeld _ ?_;try go_frame
     refine rgTake 2 (some 82) hHeld _ ?_;try go_frame
     refine rgTake 3 (some 83) hHeld _ ?_;try go_frame
     refine rgTake 4 (some 84) hHeld _ ?_;try go_frame
     refine rgTake 5 (some 85) hHeld _ ?_;try go_frame
     refine rgTake 6 (some 86) hHeld _ ?_;try go_frame
     refine rgTake 7 (some 87) hHeld _ ?_;try go_frame
     refine rgTake 8 (some 88) hHeld _ ?_;try go_frame
     refine rgTake 9 (some 89) hHeld _ ?_;try go_frame
     refine rgTake 11 (some 91) hHeld _ ?_;try go_frame
     refine rgTake 12 (some 92) hHeld _ ?_;try go_frame
     refine rgStep 10 (fun K hK=> ?_)
     go_simp
     refine (HD1.out _ bw).mono ?_;rintro e w8 ⟨rfl,bel⟩;have bq:=below_step bel bq;have bw:=below_step bel bw
     (try go_wp2_with fail)
     refine hK.out _ _ ?_ (fun hHeld=> ?_)
     ·(try dsimp only);exact ⟨cell_later bq q0,cell_later bq x7,cell_later bq y0⟩
     clear hK K
     try go_frame
     refine rgStep 13 (fun K hK=> ?_)
     go_simp
     refine (HD2.out _ bw).mono ?_;rintro e w9 ⟨rfl,bel⟩;have bq:=below_step bel bq;have bw:=below_step bel bw
     (try go_wp2_with fail)
     refine hK.out _ _ ?_ (fun hHeld=> ?_)
     ·(try dsimp only);exact ⟨cell_later bq q0,cell_later bq x7,cell_later bq y0⟩
     clear hK K
     try go_frame
     refine rgTake 14 (some 94) hHeld _ ?_;try go_frame
     refine wpAnyH_done (by kernel_rfl) ?_ _
     have H9:=Lib.hid (below_step (bq.mono (Nat.le_refl _)) HB.out.1)
     clear bq bw hHeld q0 x7 y0
     go_wp2
     go_roundw
     case rel=> exact ⟨j+1,by omega,by go_num,H9.out⟩
     case measure=> simp [intOf];omega
    ·obtain rfl:j=ks.length:=by omega
     go_wp2
     go_roundw
     case rel=> exact ⟨k+1,by omega,by go_num,HB.out.1⟩
     case measure=> simp [intOf];omega
  ·obtain rfl:k=L.length:=by omega
   clear HCL HDK HDP
   go_wp2_with fail
   refine (HMN.out (-1) _ HB.out.2).mono ?_
   rintro e w7 ⟨rfl,bel⟩
   rw [HM0.out.1]
   have b7:=below_step bel HB.out.2
   have q0:=cell_later bel q0
   have H7:=Lib.hid b7
   clear bel b7
   go_wp2_with fail
   refine (HMX.out L.length _ H7.out).mono ?_
   rintro e w8 ⟨rfl,bel⟩
   rw [HM0.out.2]
   have H8:=Lib.hid (HB1.out.trans ((below_step bel H7.out).mono HB1.out.size))
   clear bel
   go_wp2
   go_ret
   exact ⟨rfl,H8.out⟩
end Go.Proofs.Yteldgdelmaeokaa.FnSizes
