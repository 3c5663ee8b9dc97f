/- Out of ValEdI, ValIc, ValIn: the walks and plain laws that the claim needs. No condition but those that each theorem names. -/
import Derived.Test.YteldgdelmaeokaaGreatDoorGra
import Derived.WalkSpells
import Derived.WalkLawsBesides
import Derived.Deep.RegionHeld3
import Derived.Test.YteldgdelmaeokaaGreatDoorGrd
import Derived.Test.YteldgdelmaeokaaGreatDoorGf
set_option linter.unusedSimpArgs false
set_option linter.unusedVariables false
set_option maxHeartbeats 4000000
set_option maxRecDepth 100000
namespace Go.Proofs.YteldgdelmaeokaaGreatDoor
open Go.Proofs.Tryz Go.RowKit
theorem editIns_any (vD:Value) (l:List RM) (x:VM) (s:ByteArray) (B:Nat) (w:World) (h:Jc w B vD l) (hB:B≤w.heap.size) (ok:∀r∈l,r.d.ok) (sm:∀r∈l,r.d.small 1048576) (hx:x.rd w B) (hs:x.d.size≤2097152) (hss:s.size≤2097152) (ht:Tab w)
  (chg:Int→Zt→Option Zt) (gd ga gp:Nat)
  (hCH:∀(x':VM) (S:List ByteArray) (lo g:Nat) (t:List Nat) (y:VM) (k g' o':Nat) (W:World),Below w.heap.size w W→w.heap.size≤lo→lo≤g→g < W.heap.size→lo≤W.heap.size→Vd W lo g 0 x'→(∀i,i < 3→W.frozen? ⟨g,i,none⟩=false)→x'.d.size≤2097152→Qc (l.map RM.d) ((l.length:Int) - 1)=true→Hn (l.map RM.d) x' S W lo g 0 S.length t y k g' o'→
    Calls prog 25 #[.pointer (some ⟨g',o',none⟩), .int .i64 k, .pointer (some ⟨gd,0,none⟩), .pointer (some ⟨ga,0,none⟩), .pointer (some ⟨gp,0,none⟩)] W (ChE x' t lo g (chg k y.d) W)):
  Calls prog 24 #[.agg #[vD],Qr x, .string s, .func (.func 25) #[] #[.pointer (some ⟨gd,0,none⟩), .pointer (some ⟨ga,0,none⟩), .pointer (some ⟨gp,0,none⟩)]] w
   (Pa (Vx (Jg (l.map RM.d) x.d (Qu Zf s) (Yl Zf s) chg).1) (.bool (Jg (l.map RM.d) x.d (Qu Zf s) (Yl Zf s) chg).2) w):=by
 have hs4:x.d.size≤4194304:=by omega
 have hlm:(l.map RM.d).length=l.length:=List.length_map ..
 have hR:∀W,Below w.heap.size w W→Calls prog 58 #[.agg #[vD]] W fun e w'=> e= .returned (.int .i64 ((l.length:Int) - 1))∧Below W.heap.size W w':=fun W hb=> Rw vD l B W (h.below (hb.mono hB))
 have hSP:∀W,Below w.heap.size w W→Calls prog 57 #[.string s] W fun e w'=> ∃v,e= .returned (.tuple #[v, .bool (Qu Zf s)])∧OwS (Yl Zf s) W.heap.size w'.heap.size w' v∧Below W.heap.size W w':=fun W hb=> Ra s W hss
 have hV:∀W,Below w.heap.size w W→Calls prog 28 #[.agg #[vD], .int .i64 ((l.length:Int) - 1),Qr x] W fun e w'=> e= .returned (.bool (Qc (l.map RM.d) ((l.length:Int) - 1) && Zo (l.map RM.d) ((l.length:Int) - 1) x.d))∧Below W.heap.size W w':=fun W hb=>
  Vi vD l _ x w.heap.size W ((h.below (hb.mono hB)).more hB) hb.size ok sm ((hx.bel (hb.mono hB)).more hB) hs4
 have hsz:∀p∈Yl Zf s,p.size≤maxLen:=fun p hp=> by
  unfold Yl at hp
  split at hp
  ·have:=Uw s 47 p (List.mem_of_mem_tail hp)
   unfold maxLen;omega
  ·cases hp
 have hP:∀(x':VM) (lo:Nat),x'.d=x.d→Qc (l.map RM.d) ((l.length:Int) - 1)=true→Zo (l.map RM.d) ((l.length:Int) - 1) x.d=true→∀W (g:Nat) (vS:Value),Below w.heap.size w W→x'.own lo W→Xx W W.heap.size vS (Yl Zf s)→W.cell? ⟨g,0,none⟩=some (.int .i64 x'.n)→W.cell? ⟨g,1,none⟩=some x'.vb→W.cell? ⟨g,2,none⟩=some x'.vi→
   Calls prog 59 #[.agg #[vD], .pointer (some ⟨g,0,none⟩),vS] W fun e w'=> Below W.heap.size W w'∧PartE (l.map RM.d) x' (Yl Zf s) W lo g 0 e:=fun x' lo hd hk hv W g vS hb hx' hS a0 a1 a2=> by
  have hrg:=Xw hk
  have hl:0 < l.length:=by omega
  rw [Um hl] at hv
  exact Ie vD l x' lo g 0 vS (Yl Zf s) B W (h.below (hb.mono hB)) (by have:=hb.size;omega) ok sm (Xv hk) hl hx' (by rw [hd];exact hs4) (by rw [hd];exact hv) a0 (by rw [Nat.zero_add];exact a1) (by rw [Nat.zero_add];exact a2) hS hsz (Rq ht hb)
 have hCP:∀W,Below w.heap.size w W→Calls prog 27 #[Qr x] W (Ov (Vx x.d) W):=fun W hb=>
  Rx x w.heap.size W ((hx.bel (hb.mono hB)).more hB) hb.size hs4
 obtain ⟨A,c,rfl,hc,hm, -⟩:=h.open_
 obtain ⟨Ax,cx,ex, -⟩:=hx.bytes.open_
 obtain ⟨Ay,cy,ey, -⟩:=hx.its.open_
 have hvm:Qr x= .agg #[.int .i64 x.n, .slice Ax x.b.length cx, .slice Ay x.items.length cy]:=by unfold Qr;rw [ex,ey]
 rw [hvm] at hV hCP ⊢
 have HR:=Fd hR
 have HSP:=Fd hSP
 have HV:=Fd hV
 have HP:=Fd hP
 have HCP:=Fd hCP
 have HCH:=Fd hCH
 have HLM:=Fd hlm
 have HSX:=Fd hs
 have hnx:x.d.items.length=x.items.length:=by rw [VM.items_d,List.length_map]
 have HNX:=Fd hnx
 clear hR hSP hV hP hCP hCH hlm ok sm h hs hs4 hss ht hsz hx ex ey hvm hnx hc
 unfold maxLen at hm
 obtain ⟨W0,hW0⟩:∃W0,W0=(((w.alloc (.cells #[.slice A l.length c] 26)).alloc (.cells #[.int .i64 x.n, .slice Ax x.b.length cx, .slice Ay x.items.length cy] 29)).alloc (.cells #[.int .i64 0, .slice none 0 0, .slice none 0 0] 29)):=⟨_,rfl⟩
 have hb0:Below w.heap.size w W0:=by rw [hW0];exact (((Below.refl w.heap.size w).alloc (Nat.le_refl _) _).alloc (by simp) _).alloc (by simp;omega) _
 have hz0:W0.heap.size=w.heap.size+3:=by rw [hW0];simp
 have y0:W0.cell? ⟨w.heap.size,0,none⟩=some (.slice A l.length c):=by rw [hW0];simp [go_sem]
 have HV3:B3 W0 (w.heap.size+1) (.int .i64 x.n) (.slice Ax x.b.length cx) (.slice Ay x.items.length cy):=by
  rw [hW0]
  refine B3.alloc ?_ _
  have:=B3.new (w.alloc (.cells #[.slice A l.length c] 26)) (.int .i64 x.n) (.slice Ax x.b.length cx) (.slice Ay x.items.length cy) 29
  simpa using this
 have HR3:B3 W0 (w.heap.size+1+1) (.int .i64 0) (.slice none 0 0) (.slice none 0 0):=by
  rw [hW0]
  have:=B3.new ((w.alloc (.cells #[.slice A l.length c] 26)).alloc (.cells #[.int .i64 x.n, .slice Ax x.b.length cx, .slice Ay x.items.length cy] 29)) (.int .i64 0) (.slice none 0 0) (.slice none 0 0) 29
  simpa using this
 go_enter func24,ntmps24
 go_wp2_with fail
 rw [←hW0]
 clear hW0
 refine (HSP.out _ hb0).mono ?_
 rintro e w2 ⟨vs,rfl,hrd,bel⟩
 have b2:=Zb bel hb0
 have y2:=cell_later bel y0
 have HV3:=HV3.later bel
 have HR3:=HR3.later bel
 have z2:w.heap.size+3≤w2.heap.size:=by have:=bel.size;omega
 have hsl:=hrd.sl
 obtain ⟨As,cs,rfl,hcs,hms,hsc⟩:=hsl.one
 have HSL:=Fd hsl
 clear bel y0 hb0 hrd hsc hsl HSP
 cases hok:Qu Zf s
 ·have HX:=Fd (Rm (D:=l.map RM.d) (x:=x.d) (ok:=Qu Zf s) (S:=Yl Zf s) (chg:=chg) (by rw [hok];rfl))
  clear HP HR HV HSL HCH hok
  generalize Yl Zf s=S at*
  generalize x.d=xd at*
  generalize x.items.length=nx at*
  obtain ⟨lt',p0,p1,p2,g0,g1,g2⟩:=HV3
  go_wp2_with fail
  refine wp_region_held_drew (S:=(fun w9=> w9.cell? ⟨w.heap.size,0,none⟩=some (.slice A l.length c))) (by kernel_rfl) ?_ (fun hHeld=> ?_)
  ·(try dsimp only);exact y2
  refine Za 0 (some 20) hHeld _ ?_;try go_frame
  refine Za 1 (some 21) hHeld _ ?_;try go_frame
  refine Za 2 (some 22) hHeld _ ?_;try go_frame
  refine Zh 3 (some 23) hHeld ?_;try go_frame
  refine Zh 4 (some 24) hHeld ?_;try go_frame
  refine Zh 5 (some 25) hHeld ?_;try go_frame
  refine Zh 6 (some 26) hHeld ?_;try go_frame
  refine Zh 7 (some 27) hHeld ?_;try go_frame
  refine Zh 8 (some 28) hHeld ?_;try go_frame
  refine Za 9 (some 29) hHeld _ ?_;try go_frame
  refine wpAnyH_done (by kernel_rfl) ?_ _
  go_wp2_with fail
  refine (HCP.out _ (b2.drew)).mono ?_
  rintro e wc ⟨vc,rfl,hoc,belc⟩
  have HB:=Fd (Zb belc (b2.drew))
  have RB:=HR3.later (((Below.refl w2.heap.size w2).drew).trans (belc.mono (by exact Nat.le_refl _)))
  obtain ⟨Ac,cc,Ac',cc',rfl⟩:=hoc.agg
  have hoc:Vx xd w2.heap.size wc.heap.size wc _:=hoc
  have hz:w2.heap.size≤wc.heap.size:=belc.size
  have HO:=Fd hoc
  clear hoc belc
  obtain ⟨lt,t0,t1,t2,f0,f1,f2⟩:=RB
  go_wp2
  rw [HX.out]
  refine bodyPost_ret (v:= .tuple #[.agg #[.int .i64 xd.n, .slice Ac xd.b.length cc, .slice Ac' xd.items.length cc'], .bool false]) (by simp [results,results24,go_sem,t0,t1,t2]) rfl ⟨_,rfl,?_,Qf HB.out (by omega) _ _ _⟩
  refine (HO.out.set3 (g:=w.heap.size+1+1) (.inr (by omega)) _ _ _).wide (by omega) (by simp)
 ·obtain ⟨lt',p0,p1,p2,g0,g1,g2⟩:=HV3
  cases hval:(Qc (l.map RM.d) ((l.length:Int) - 1) && Zo (l.map RM.d) ((l.length:Int) - 1) x.d)
  ·rw [hval] at HV
   have HX:=Fd (Rm (D:=l.map RM.d) (x:=x.d) (ok:=Qu Zf s) (S:=Yl Zf s) (chg:=chg) (by rw [hok,HLM.out,hval];rfl))
   clear HP HSL HCH hok hval
   generalize Yl Zf s=S at*
   generalize x.d=xd at*
   generalize x.items.length=nx at*
   go_wp2_with fail
   refine wp_region_held_drew (S:=(fun w9=> w9.cell? ⟨w.heap.size,0,none⟩=some (.slice A l.length c)∧w9.cell? ⟨w.heap.size+1,0,none⟩=some (.int .i64 x.n)∧w9.cell? ⟨w.heap.size+1,1,none⟩=some (.slice Ax x.b.length cx)∧w9.cell? ⟨w.heap.size+1,2,none⟩=some (.slice Ay nx cy))) (by kernel_rfl) ?_ (fun hHeld=> ?_)
   ·(try dsimp only);exact ⟨y2,p0,p1,p2⟩
   refine Za 0 (some 20) hHeld _ ?_;try go_frame
   refine Za 1 (some 21) hHeld _ ?_;try go_frame
   refine Za 2 (some 22) hHeld _ ?_;try go_frame
   refine Za 3 (some 23) hHeld _ ?_;try go_frame
   refine Za 4 (some 24) hHeld _ ?_;try go_frame
   refine Za 6 (some 26) hHeld _ ?_;try go_frame
   refine Zi 5 (fun K hK=> ?_)
   go_simp
   refine (HR.out _ b2.drew).mono ?_;rintro e w7 ⟨rfl,bel7⟩;have bq:=Zb bel7 ((Below.refl w2.heap.size w2).drew);have bw:=Zb bel7 b2.drew
   (try go_wp2_with fail)
   refine hK.out _ _ ?_ (fun hHeld=> ?_)
   ·(try dsimp only);exact ⟨cell_later bq y2,cell_later bq p0,cell_later bq p1,cell_later bq p2⟩
   clear hK K
   try go_frame
   refine Zi 7 (fun K hK=> ?_)
   go_simp
   refine (HV.out _ bw).mono ?_;rintro e w8 ⟨rfl,bel8⟩;have bq:=Zb bel8 bq;have bw:=Zb bel8 bw
   (try go_wp2_with fail)
   refine hK.out _ _ ?_ (fun hHeld=> ?_)
   ·(try dsimp only);exact ⟨cell_later bq y2,cell_later bq p0,cell_later bq p1,cell_later bq p2⟩
   clear hK K
   try go_frame
   refine Za 8 (some 28) hHeld _ ?_;try go_frame
   refine Za 9 (some 29) hHeld _ ?_;try go_frame
   refine wpAnyH_done (by kernel_rfl) ?_ _
   have HR3:=HR3.later bq
   have r0:=cell_later bq p0
   have r1:=cell_later bq p1
   have r2:=cell_later bq p2
   clear p0 p1 p2
   have hz8:w.heap.size+3≤w8.heap.size:=by have:=bq.size;omega
   clear bel7 bel8 bq
   go_wp2_with fail
   refine (HCP.out _ (bw)).mono ?_
   rintro e wc ⟨vc,rfl,hoc,belc⟩
   have HB:=Fd (Zb belc (bw))
   have RB:=HR3.later belc
   obtain ⟨Ac,cc,Ac',cc',rfl⟩:=hoc.agg
   have hoc:Vx xd w8.heap.size wc.heap.size wc _:=hoc
   have hz:w8.heap.size≤wc.heap.size:=belc.size
   have HO:=Fd hoc
   clear hoc belc
   obtain ⟨lt,t0,t1,t2,f0,f1,f2⟩:=RB
   go_wp2
   rw [HX.out]
   refine bodyPost_ret (v:= .tuple #[.agg #[.int .i64 xd.n, .slice Ac xd.b.length cc, .slice Ac' xd.items.length cc'], .bool false]) (by simp [results,results24,go_sem,t0,t1,t2]) rfl ⟨_,rfl,?_,Qf HB.out (by omega) _ _ _⟩
   refine (HO.out.set3 (g:=w.heap.size+1+1) (.inr (by omega)) _ _ _).wide (by omega) (by simp)
  ·rw [hval] at HV
   have hkn:Qc (l.map RM.d) ((l.length:Int) - 1)=true∧Zo (l.map RM.d) ((l.length:Int) - 1) x.d=true:=by simpa using hval
   have HKN:=Fd hkn
   have HXT:=Fd (show (Qu Zf s && (Qc (l.map RM.d) (((l.map RM.d).length:Int) - 1) && Zo (l.map RM.d) (((l.map RM.d).length:Int) - 1) x.d))=true by rw [hok,HLM.out,hval];rfl)
   clear hok hval hkn
   generalize Yl Zf s=S at*
   go_wp2_with fail
   refine wp_region_held_drew (S:=(fun w9=> w9.cell? ⟨w.heap.size,0,none⟩=some (.slice A l.length c)∧w9.cell? ⟨w.heap.size+1,0,none⟩=some (.int .i64 x.n)∧w9.cell? ⟨w.heap.size+1,1,none⟩=some (.slice Ax x.b.length cx)∧w9.cell? ⟨w.heap.size+1,2,none⟩=some (.slice Ay x.items.length cy))) (by kernel_rfl) ?_ (fun hHeld=> ?_)
   ·(try dsimp only);exact ⟨y2,p0,p1,p2⟩
   refine Za 0 (some 20) hHeld _ ?_;try go_frame
   refine Za 1 (some 21) hHeld _ ?_;try go_frame
   refine Za 2 (some 22) hHeld _ ?_;try go_frame
   refine Za 3 (some 23) hHeld _ ?_;try go_frame
   refine Za 4 (some 24) hHeld _ ?_;try go_frame
   refine Za 6 (some 26) hHeld _ ?_;try go_frame
   refine Zi 5 (fun K hK=> ?_)
   go_simp
   refine (HR.out _ b2.drew).mono ?_;rintro e w7 ⟨rfl,bel7⟩;have bq:=Zb bel7 ((Below.refl w2.heap.size w2).drew);have bw:=Zb bel7 b2.drew
   (try go_wp2_with fail)
   refine hK.out _ _ ?_ (fun hHeld=> ?_)
   ·(try dsimp only);exact ⟨cell_later bq y2,cell_later bq p0,cell_later bq p1,cell_later bq p2⟩
   clear hK K
   try go_frame
   refine Zi 7 (fun K hK=> ?_)
   go_simp
   refine (HV.out _ bw).mono ?_;rintro e w8 ⟨rfl,bel8⟩;have bq:=Zb bel8 bq;have bw:=Zb bel8 bw
   (try go_wp2_with fail)
   refine hK.out _ _ ?_ (fun hHeld=> ?_)
   ·(try dsimp only);exact ⟨cell_later bq y2,cell_later bq p0,cell_later bq p1,cell_later bq p2⟩
   clear hK K
   try go_frame
   refine Za 8 (some 28) hHeld _ ?_;try go_frame
   refine Za 9 (some 29) hHeld _ ?_;try go_frame
   refine wpAnyH_done (by kernel_rfl) ?_ _
   have HR3:=HR3.later bq
   have HSL:=Fd ((Sl.below HSL.out bq).more bq.size)
   have r0:=cell_later bq p0
   have r1:=cell_later bq p1
   have r2:=cell_later bq p2
   have y8:=cell_later bq y2
   have b8:=bw
   have hz8:w.heap.size+3≤w8.heap.size:=by have:=bq.size;omega
   clear bel7 bel8 bq bw y2 p0 p1 p2 g0 g1 g2 HR HV b2 lt'
   go_wp2_with fail
   refine (HCP.out _ b8).mono ?_
   rintro e w1 ⟨v,rfl,⟨x',hd,rfl,ho⟩,bel⟩
   obtain ⟨A7,c7,e7, -⟩:=ho.own.rd.bytes.open_
   obtain ⟨A8,c8,e8, -⟩:=ho.own.rd.its.open_
   have hvm:Qr x'= .agg #[.int .i64 x'.n, .slice A7 x'.b.length c7, .slice A8 x'.items.length c8]:=by unfold Qr;rw [e7,e8]
   rw [hvm]
   obtain ⟨W2,hW2⟩:∃W2,W2=w1.alloc (.cells #[.int .i64 x'.n, .slice A7 x'.b.length c7, .slice A8 x'.items.length c8] 29):=⟨_,rfl⟩
   have h12:Below w1.heap.size w1 W2:=by rw [hW2];exact (Below.refl _ _).alloc (Nat.le_refl _) _
   have BB2:B3 W2 w1.heap.size (.int .i64 x'.n) (.slice A7 x'.b.length c7) (.slice A8 x'.items.length c8):=by rw [hW2];exact B3.new w1 _ _ _ _
   have hz2:W2.heap.size=w1.heap.size+1:=by rw [hW2];simp
   have b02:=bel.trans (h12.mono bel.size)
   have hb2:=Zb h12 (Zb bel b8)
   have s2:=cell_later b02 y8
   have r0:=cell_later b02 r0
   have r1:=cell_later b02 r1
   have r2:=cell_later b02 r2
   have HR3:=HR3.later b02
   have ho2:=ho.keep (Xm.of_below h12 0 0) (.inr (Nat.zero_le _))
   have HBX:=Fd (show Vd W2 w8.heap.size w1.heap.size 0 x' from ⟨fun i u hu=> by
    rw [Nat.zero_add]
    simp only [Ze,e7,e8] at hu
    match i,hu with
    |0,hu=> simp only [List.getElem?_cons_zero,Option.some.injEq] at hu;subst hu;exact BB2.c0
    |1,hu=> simp only [List.getElem?_cons_succ,List.getElem?_cons_zero,Option.some.injEq] at hu;subst hu;exact BB2.c1
    |2,hu=> simp only [List.getElem?_cons_succ,List.getElem?_cons_zero,Option.some.injEq] at hu;subst hu;exact BB2.c2
    |i+3,hu=> simp at hu,ho2.own,ho2.nd,fun hm=> by have:=(ho2.rng _ hm).2;omega⟩)
   have HSL:=Fd ((Sl.below HSL.out b02).more b02.size)
   have HPX:=Fd (HP.out x' w8.heap.size hd HKN.out.1 HKN.out.2 W2 w1.heap.size (.slice As S.length cs) hb2 ho2.own HSL.out BB2.c0 (by rw [e7];exact BB2.c1) (by rw [e8];exact BB2.c2))
   have HD:=Fd (And.intro hd (And.intro hvm bel.size))
   have hz1:w.heap.size+3≤w1.heap.size:=by have:=bel.size;omega
   obtain ⟨lb,a0,a1,a2,f0,f1,f2⟩:=BB2
   clear bel ho ho2 e7 e8 hvm hd HP y8 h12 b02 b8
   generalize hnn:x'.n=nn at*
   generalize hnb:x'.b.length=nb at*
   generalize hni:x'.items.length=ni at*
   have HNN:=Fd (And.intro hnn (And.intro hnb hni))
   clear hnn hnb hni
   go_upto_region 5 with fail
   rw [←hW2]
   clear hW2
   go_wp2_with fail
   refine HPX.out.mono ?_
   rintro e w9 ⟨bel9,⟨hn,rfl⟩|⟨t,y,k,g',o',hp,rfl⟩⟩
   ·rw [HD.out.1] at hn
    have HX:=Fd (Ry (ok:=Qu Zf s) (chg:=chg) hn)
    have HR3:=HR3.later bel9
    have bw:=Zb bel9 hb2
    have r0:=cell_later bel9 r0
    have r1:=cell_later bel9 r1
    have r2:=cell_later bel9 r2
    have z9:=bel9.size
    clear hn bel9 HD HPX HBX HSL HCH a0 a1 a2 s2 HKN HXT hb2
    generalize x.d=xd at*
    generalize x.items.length=nx at*
    go_wp2_with fail
    refine (HCP.out _ (bw)).mono ?_
    rintro e wc ⟨vc,rfl,hoc,belc⟩
    have HB:=Fd (Zb belc (bw))
    have RB:=HR3.later belc
    obtain ⟨Ac,cc,Ac',cc',rfl⟩:=hoc.agg
    have hoc:Vx xd w9.heap.size wc.heap.size wc _:=hoc
    have hz:w9.heap.size≤wc.heap.size:=belc.size
    have HO:=Fd hoc
    clear hoc belc
    obtain ⟨lt,t0,t1,t2,f0,f1,f2⟩:=RB
    go_wp2
    rw [HX.out]
    refine bodyPost_ret (v:= .tuple #[.agg #[.int .i64 xd.n, .slice Ac xd.b.length cc, .slice Ac' xd.items.length cc'], .bool false]) (by simp [results,results24,go_sem,t0,t1,t2]) rfl ⟨_,rfl,?_,Qf HB.out (by omega) _ _ _⟩
    refine (HO.out.set3 (g:=w.heap.size+1+1) (.inr (by omega)) _ _ _).wide (by omega) (by simp)
   ·have hw:=hp.rdi.done (Nat.le_refl _)
    rw [HD.out.1] at hw
    have r0:=cell_later bel9 r0
    have r1:=cell_later bel9 r1
    have r2:=cell_later bel9 r2
    have HR3:=HR3.later bel9
    have a0:=cell_later bel9 a0
    have a1:=cell_later bel9 a1
    have a2:=cell_later bel9 a2
    have b9:=Zb bel9 hb2
    have hbx:=HBX.out.later bel9
    have hfz:∀i,i < 3→w9.frozen? ⟨w1.heap.size,i,none⟩=false:=fun i hi=> by
     rw [bel9.frozen (p:=⟨w1.heap.size,i,none⟩) lb]
     match i,hi with
     |0,_=> exact f0
     |1,_=> exact f1
     |2,_=> exact f2
    have hcl:=HCH.out x' S w8.heap.size w1.heap.size t y k g' o' w9 b9 (by omega) HD.out.2.2 (by have:=bel9.size;omega) (by have:=bel9.size;have:=HD.out.2.2;omega) hbx hfz (by rw [HD.out.1];exact HSX.out) HKN.out.1 (hp.later bel9)
    have HW:=Fd (And.intro hw (hp.put))
    have hz9:w1.heap.size < w9.heap.size:=by have:=bel9.size;omega
    have HCL:=Fd hcl
    clear hcl hw hp hbx bel9 HBX HPX hb2 s2 HSL HCH HKN
    go_wp2_with fail
    refine HCL.out.mono ?_
    rintro e w10 ⟨bel10,⟨hc,rfl⟩|⟨z,rfl,hc,hbz⟩⟩
    ·have HX:=Fd (Xi (ok:=Qu Zf s) HW.out.1 hc)
     have h8:=HD.out.2.2
     have HR3:=HR3.keep bel10 (by omega)
     have bw:=b9.trans (bel10.mono (by omega))
     have r0:=Zc r0 bel10 (by omega)
     have r1:=Zc r1 bel10 (by omega)
     have r2:=Zc r2 bel10 (by omega)
     have z10:=bel10.size
     clear hc bel10 HD HCL HW HXT a0 a1 a2 b9 h8
     generalize x.d=xd at*
     generalize x.items.length=nx at*
     go_wp2_with fail
     refine (HCP.out _ (bw)).mono ?_
     rintro e wc ⟨vc,rfl,hoc,belc⟩
     have HB:=Fd (Zb belc (bw))
     have RB:=HR3.later belc
     obtain ⟨Ac,cc,Ac',cc',rfl⟩:=hoc.agg
     have hoc:Vx xd w10.heap.size wc.heap.size wc _:=hoc
     have hz:w10.heap.size≤wc.heap.size:=belc.size
     have HO:=Fd hoc
     clear hoc belc
     obtain ⟨lt,t0,t1,t2,f0,f1,f2⟩:=RB
     go_wp2
     rw [HX.out]
     refine bodyPost_ret (v:= .tuple #[.agg #[.int .i64 xd.n, .slice Ac xd.b.length cc, .slice Ac' xd.items.length cc'], .bool false]) (by simp [results,results24,go_sem,t0,t1,t2]) rfl ⟨_,rfl,?_,Qf HB.out (by omega) _ _ _⟩
     refine (HO.out.set3 (g:=w.heap.size+1+1) (.inr (by omega)) _ _ _).wide (by omega) (by simp)
    ·have HX:=Fd (Tq (S:=S) HXT.out HW.out.1 hc)
     have h8:=HD.out.2.2
     have HR3:=HR3.keep bel10 (by omega)
     have bw:=b9.trans (bel10.mono (by omega))
     obtain ⟨q,hq⟩:∃q,q=VM.put z x' t:=⟨_,rfl⟩
     rw [←hq] at hbz
     have hqd:q.d=Vy (l.map RM.d) z.d ((l.map RM.d).length - 1:Nat) x.d S:=by
      rw [hq,←HD.out.1]
      exact HW.out.2 z.d z (by rw [List.drop_length,Tg])
     have t0:=hbz.cells 0 _ rfl
     have t1:=hbz.cells 1 _ rfl
     have t2:=hbz.cells 2 _ rfl
     obtain ⟨A9,c9,e9, -⟩:=hbz.own.rd.bytes.open_
     obtain ⟨A10,c10,e10, -⟩:=hbz.own.rd.its.open_
     rw [e9] at t1
     rw [e10] at t2
     simp only [Nat.add_zero,Nat.zero_add] at t0 t1 t2
     have HQ:=Fd (And.intro hqd (And.intro hbz (And.intro e9 e10)))
     have HBW:=Fd bw
     have z10:=bel10.size
     clear hc hq hqd hbz e9 e10 bel10 HCL HW HXT a0 a1 a2 b9 bw r0 r1 r2
     generalize hnq:q.n=nq at*
     generalize hlq:q.b.length=lq at*
     generalize hkq:q.items.length=kq at*
     have HNQ:=Fd (And.intro hnq (And.intro hlq hkq))
     clear hnq hlq hkq
     obtain ⟨lt,j0,j1,j2,f0,f1,f2⟩:=HR3
     go_wp2
     rw [HX.out]
     obtain ⟨hqd,hbz,e9,e10⟩:=HQ.out
     obtain ⟨n1,n2,n3⟩:=HNQ.out
     refine bodyPost_ret (v:= .tuple #[.agg #[.int .i64 nq, .slice A9 lq c9, .slice A10 kq c10], .bool true]) (by simp [results,results24,go_sem,j0,j1,j2]) rfl ⟨_,rfl,⟨q,hqd,by unfold Qr;rw [e9,e10,n1],?_⟩,Qf HBW.out (by omega) _ _ _⟩
     have hlq:∀g∈q.bks,w8.heap.size≤g∧g < w10.heap.size:=hbz.own.lt
     have o1:Ut q w8.heap.size w10.heap.size w10:=⟨hbz.own,hbz.nd,hlq⟩
     refine (o1.keep (lo':=w.heap.size+1+1) (hi':=w.heap.size+3) ?_ (.inr (by omega))).wide (by omega) (by simp)
     repeat (refine Xm.setCell ?_ (by show _≤w.heap.size+1+1;omega) (by show w.heap.size+1+1 < _;omega) _)
     exact Xm.refl _ _ _
theorem insClo_any (vD:Value) (l:List RM) (p:VM) (at_:Int) (gd ga gp:Nat) (B:Nat) (w:World) (h:Jc w B vD l) (hB:B≤w.heap.size) (ok:∀r∈l,r.d.ok) (sm:∀r∈l,r.d.small 1048576) (hp:p.rd w B) (hps:p.d.size≤1048576)
  (d0:w.cell? ⟨gd,0,none⟩=some vD) (a0:w.cell? ⟨ga,0,none⟩=some (.int .i64 at_)) (p0:w.cell? ⟨gp,0,none⟩=some (.int .i64 p.n)) (p1:w.cell? ⟨gp,1,none⟩=some p.vb) (p2:w.cell? ⟨gp,2,none⟩=some p.vi)
  (x':VM) (S:List ByteArray) (lo g:Nat) (t:List Nat) (y:VM) (k g' o':Nat) (W:World) (hb:Below w.heap.size w W) (hlo:w.heap.size≤lo) (hlg:lo≤g) (hg:g < W.heap.size) (hlW:lo≤W.heap.size) (hbx:Vd W lo g 0 x') (hfz:∀i,i < 3→W.frozen? ⟨g,i,none⟩=false) (hxs:x'.d.size≤2097152) (hpt:Hn (l.map RM.d) x' S W lo g 0 S.length t y k g' o'):
  Calls prog 25 #[.pointer (some ⟨g',o',none⟩), .int .i64 k, .pointer (some ⟨gd,0,none⟩), .pointer (some ⟨ga,0,none⟩), .pointer (some ⟨gp,0,none⟩)] W (ChE x' t lo g (Rv (l.map RM.d) at_ p.d k y.d) W):=by
 obtain ⟨i0,hi,hz0,hz1,hz2⟩:=info_parts info_value
 have hlm:(l.map RM.d).length=l.length:=List.length_map ..
 have hk:k < l.length:=by have:=hpt.rdi.rng;rwa [hlm] at this
 have hik:Xl (l.map RM.d) k 5=decide (l[k].d.kind=5):=by rw [Lf (by rw [hlm];exact hk),List.getElem_map]
 have hyl:y.d.items.length=y.items.length:=by rw [VM.items_d,List.length_map]
 have hys:y.d.size≤2097152:=Nat.le_trans (Uj (hpt.rdi.done (Nat.le_refl _))) hxs
 have hyn:y.items.length≤2097152:=by
  have h2:=Zt.length_le (y.items.map VM.d)
  rw [List.length_map] at h2
  have h1:=hys
  rw [VM.size_d] at h1
  omega
 have hCP:∀W',Below W.heap.size W W'→Calls prog 27 #[Qr p] W' (Ov (Vx p.d) W'):=fun W' hb'=>
  Rx p w.heap.size W' ((hp.bel ((hb.trans (hb'.mono hb.size)).mono hB)).more hB) (hb.trans (hb'.mono hb.size)).size (by omega)
 obtain ⟨A,c,rfl,hc,hm, -⟩:=h.open_
 have hRC:=Zx h k hk
 obtain ⟨b,off,A1,c1,A2,c2,A3,c3,A4,c4,rfl,hbB, -, -, -, -, -, -, -, -,hcell⟩:=hRC
 obtain ⟨-,x1, -, -, -, -, -, -⟩:=hcell W (Zy hb hB)
 have hV:∀(z:VM) W',Below w.heap.size w W'→z.rd W' W'.heap.size→z.d.size≤4194304→Calls prog 28 #[.agg #[.slice (some ⟨b,off,none⟩) l.length c], .int .i64 k,Qr z] W' fun e w'=> e= .returned (.bool (Qc (l.map RM.d) k && Zo (l.map RM.d) k z.d))∧Below W'.heap.size W' w':=fun z W' hb' hz hzs=>
  Vi _ l _ z W'.heap.size W' ((h.below (hb'.mono hB)).more (by have:=hb'.size;omega)) (Nat.le_refl _) ok sm hz hzs
 obtain ⟨Ap,cp,ep, -⟩:=hp.bytes.open_
 obtain ⟨Aq,cq,eq, -⟩:=hp.its.open_
 obtain ⟨Ay,cy,ey, -⟩:=hpt.own.rd.bytes.open_
 obtain ⟨Az,cz,ez,hcz,hmz, -⟩:=hpt.own.rd.its.open_
 have hits:Ly W W.heap.size (.slice Az y.items.length cz) y.items:=by rw [←ez];exact hpt.own.rd.its
 have hvm:Qr p= .agg #[.int .i64 p.n, .slice Ap p.b.length cp, .slice Aq p.items.length cq]:=by unfold Qr;rw [ep,eq]
 rw [hvm] at hCP
 rw [ep] at p1
 rw [eq] at p2
 have t0:=hpt.c0
 have t1:=hpt.c1
 have t2:=hpt.c2
 rw [ey] at t1
 rw [ez] at t2
 have a0':=a0
 have hgd:gd < w.heap.size:=World.block_lt_of_cell? w _ d0
 have hgp:g' < W.heap.size:=World.block_lt_of_cell? W _ t0
 have HBW:=Fd hb
 have d0:=cell_later hb d0
 have a0:=cell_later hb a0
 have p0:=cell_later hb p0
 have p1:=cell_later hb p1
 have p2:=cell_later hb p2
 have HV:=Fd hV
 have HCP:=Fd hCP
 have HBX:=Fd (And.intro hbx (And.intro hfz hpt))
 have HY:=Fd (And.intro ey (And.intro ez (And.intro hys hps)))
 have hlg':lo≤g':=by
  have:=VM.adr_in (g:=g) (o:=0) hpt.sub hbx.own
  rw [hpt.adr] at this
  rcases this with e|e
  ·have e:g'=g:=e
   omega
  ·exact (hbx.own.lt _ e).1
 have hga:ga < w.heap.size:=World.block_lt_of_cell? w _ a0'
 have hloW:=hlo
 have HIT:=Fd hits
 have hnx:y.items.length≤9223372036854775807:=by omega
 have hnl:l.length≤9223372036854775807:=by unfold maxLen at hm;omega
 have hmz':cz≤9223372036854775807:=by unfold maxLen at hmz;omega
 have HM:=Fd hmz
 have HLG:=Fd (And.intro hlo (And.intro hlg (And.intro hg hlW)))
 clear hV hCP hbx hfz hpt h hp ep eq ey ez ok sm hvm hc hm hb hcell hbB hlm hmz hits hxs hys hps hlo hlg hg
 by_cases hkd:l[k].d.kind=5
 ·rw [hkd] at x1
  have hin:=hyl
  cases hir:Yv at_ 0 y.items.length
  ·have HC:=Fd (Mj (D:=l.map RM.d) (at_:=at_) (P:=p.d) (k:=(k:Int)) (y:=y.d) (by rw [hyl,hir];simp))
   have HR:=Fd hir
   clear hir hik hyl hin hkd
   generalize y.items.length=ny at*
   have bq:=(Below.refl W.heap.size W).drew
   go_enter func25,ntmps25
   go_wp2_with fail
   refine wp_region_held_drew (S:=(fun w9=> w9.cell? ⟨gd,0,none⟩=some (.slice (some ⟨b,off,none⟩) l.length c)∧w9.cell? ⟨b,off+k*8+1,none⟩=some (.int .i64 5)∧w9.cell? ⟨ga,0,none⟩=some (.int .i64 at_)∧w9.cell? ⟨g',o'+2,none⟩=some (.slice Az ny cz))) (by kernel_rfl) ?_ (fun hHeld=> ?_)
   ·(try dsimp only);exact ⟨d0,x1,a0,t2⟩
   refine Za 0 (some 9) hHeld _ ?_;try go_frame
   refine Za 1 (some 10) hHeld _ ?_;try go_frame
   refine Za 2 (some 11) hHeld _ ?_;try go_frame
   refine Za 3 (some 12) hHeld _ ?_;try go_frame
   refine Za 4 (some 13) hHeld _ ?_;try go_frame
   refine Za 5 (some 14) hHeld _ ?_;try go_frame
   refine Za 6 (some 15) hHeld _ ?_;try go_frame
   refine Za 7 (some 16) hHeld _ ?_;try go_frame
   refine Za 8 (some 17) hHeld _ ?_;try go_frame
   refine Za 9 (some 18) hHeld _ ?_;try go_frame
   refine Za 10 (some 19) hHeld _ ?_;try go_frame
   refine Za 11 (some 20) hHeld _ ?_;try go_frame
   refine Za 12 (some 21) hHeld _ ?_;try go_frame
   refine Za 13 (some 22) hHeld _ ?_;try go_frame
   refine Zi 14 (fun K hK=> ?_)
   go_simp
   refine (Zl _ _ _ _).mono ?_;rintro e w1 ⟨rfl,rfl⟩;rw [HR.out]
   (try go_wp2_with fail)
   refine hK.out _ _ ?_ (fun hHeld=> ?_)
   ·(try dsimp only);exact ⟨cell_later bq d0,cell_later bq x1,cell_later bq a0,cell_later bq t2⟩
   clear hK K
   try go_frame
   refine Za 15 (some 24) hHeld _ ?_;try go_frame
   refine Za 16 (some 25) hHeld _ ?_;try go_frame
   refine wpAnyH_done (by kernel_rfl) ?_ _
   go_wp2
   go_ret
   exact ⟨(bq.mono hlW), .inl ⟨HC.out,rfl⟩⟩
  ·have h01:=Jo.1 hir
   obtain ⟨i,rfl⟩:=Int.eq_ofNat_of_zero_le h01.1
   have hil:i≤y.items.length:=by omega
   have HC:=Fd (Mi (D:=l.map RM.d) (at_:=(i:Int)) (P:=p.d) (k:=(k:Int)) (y:=y.d) (by rw [hyl,hir,hik];simp [hkd]))
   rw [Int.toNat_natCast] at HC
   have HR:=Fd hir
   have hcz':=hcz
   have hcutH:=Rk (P:=prog) underlying27 sizeOf29 Az y.items.length cz i i rfl (by omega)
   have hcutL:=Vr (P:=prog) underlying27 sizeOf29 Az y.items.length cz i i rfl hil
   have HSH:=Fd (Ly.head HIT.out hil hcz HM.out)
   have HSR:=Fd (Ly.rest HIT.out hil hcz HM.out)
   have HOT:=Fd (Un (l:=y.items.take i) (fun x hx=> HBX.out.2.2.own.its x (List.mem_of_mem_take hx)))
   have HOD:=Fd (Un (l:=y.items.drop i) (fun x hx=> HBX.out.2.2.own.its x (List.mem_of_mem_drop hx)))
   clear hir hik hyl hin hkd h01
   generalize hny:y.items.length=ny at*
   have HN:=Fd hny
   clear hny
   have bq:=(Below.refl W.heap.size W).drew
   go_enter func25,ntmps25
   go_wp2_with fail
   refine wp_region_held_drew (S:=(fun w9=> w9.cell? ⟨gd,0,none⟩=some (.slice (some ⟨b,off,none⟩) l.length c)∧w9.cell? ⟨b,off+k*8+1,none⟩=some (.int .i64 5)∧w9.cell? ⟨ga,0,none⟩=some (.int .i64 i)∧w9.cell? ⟨g',o'+2,none⟩=some (.slice Az ny cz))) (by kernel_rfl) ?_ (fun hHeld=> ?_)
   ·(try dsimp only);exact ⟨d0,x1,a0,t2⟩
   refine Za 0 (some 9) hHeld _ ?_;try go_frame
   refine Za 1 (some 10) hHeld _ ?_;try go_frame
   refine Za 2 (some 11) hHeld _ ?_;try go_frame
   refine Za 3 (some 12) hHeld _ ?_;try go_frame
   refine Za 4 (some 13) hHeld _ ?_;try go_frame
   refine Za 5 (some 14) hHeld _ ?_;try go_frame
   refine Za 6 (some 15) hHeld _ ?_;try go_frame
   refine Za 7 (some 16) hHeld _ ?_;try go_frame
   refine Za 8 (some 17) hHeld _ ?_;try go_frame
   refine Za 9 (some 18) hHeld _ ?_;try go_frame
   refine Za 10 (some 19) hHeld _ ?_;try go_frame
   refine Za 11 (some 20) hHeld _ ?_;try go_frame
   refine Za 12 (some 21) hHeld _ ?_;try go_frame
   refine Za 13 (some 22) hHeld _ ?_;try go_frame
   refine Zi 14 (fun K hK=> ?_)
   go_simp
   refine (Zl _ _ _ _).mono ?_;rintro e w1 ⟨rfl,rfl⟩;rw [HR.out]
   (try go_wp2_with fail)
   refine hK.out _ _ ?_ (fun hHeld=> ?_)
   ·(try dsimp only);exact ⟨cell_later bq d0,cell_later bq x1,cell_later bq a0,cell_later bq t2⟩
   clear hK K
   try go_frame
   refine Za 15 (some 24) hHeld _ ?_;try go_frame
   refine Za 16 (some 25) hHeld _ ?_;try go_frame
   refine wpAnyH_done (by kernel_rfl) ?_ _
   obtain ⟨X0,hX0⟩:∃V,V=W.drew:=⟨_,rfl⟩
   have bq:Below W.heap.size W X0:=by rw [hX0];exact bq
   rw [←hX0]
   clear hX0
   have bqd:=bq.drew
   go_wp2_with fail
   refine wp_region_held_drew (S:=(fun w9=> w9.cell? ⟨ga,0,none⟩=some (.int .i64 i)∧w9.cell? ⟨g',o'+2,none⟩=some (.slice Az ny cz))) (by kernel_rfl) ?_ (fun hHeld=> ?_)
   ·(try dsimp only);exact ⟨cell_later bqd a0,cell_later bqd t2⟩
   refine Za 1 (some 27) hHeld _ ?_;try go_frame
   refine Za 2 (some 28) hHeld _ ?_;try go_frame
   refine Za 3 (some 29) hHeld _ ?_;try go_frame
   refine Za 4 (some 30) hHeld _ ?_;try go_frame
   refine Za 5 (some 31) hHeld _ ?_;try go_frame
   refine Za 6 (some 32) hHeld _ ?_;try go_frame
   refine Zi 0 (fun K hK=> ?_)
   (try go_simp)
   obtain ⟨X1,hX1⟩:∃V,V=(X0.alloc (.cells #[] 29)).drew:=⟨_,rfl⟩;rw [←hX1];have he:X1.ownsRow W.heap.size 29 3 (.slice (some ⟨X0.heap.size,0,none⟩) 0 0) 0 []:=(by rw [hX1];exact Qx (w:=X0) rfl bq.size);have bq:Below W.heap.size W X1:=(by rw [hX1];exact (bq.alloc bq.size _).drew);clear hX1
   refine hK.out _ _ ?_ (fun hHeld=> ?_)
   ·(try dsimp only);exact ⟨cell_later bq a0,cell_later bq t2⟩
   clear hK K
   try go_frame
   refine Zi 7 (fun K hK=> ?_)
   refine Qz _ (.tmp 26) (.tmp 32) 27 rfl W.heap.size 29 i0 (.agg #[.int .i64 0, .slice none 0 0, .slice none 0 0]) 3 56 underlying27 hi hz0 hz1 hz2 rfl (by decide) _ 0 [] rfl (by exact he) W.heap.size (i - 0) _ ((y.items.take i).flatMap Ze) rfl (by exact Sl.below HSH.out bq) HOT.out (by omega) (by unfold maxLen;omega) (by have:=bq.size;omega) ?_;intro v1 X2 hv hg hvv;have bq:=bq.grown hg bq.size (by intro q hq;exact (he.lt q hq).1);obtain ⟨A1,c1,rfl⟩:=Zm hv;simp only [Nat.zero_add,Nat.sub_zero,List.nil_append] at hv;clear he hg hvv
   refine hK.out _ _ ?_ (fun hHeld=> ?_)
   ·(try dsimp only);exact ⟨cell_later bq a0,cell_later bq t2⟩
   clear hK K
   try go_frame
   refine Za 8 (some 8) hHeld _ ?_;try go_frame
   refine wpAnyH_done (by kernel_rfl) ?_ _
   have a09:=cell_later bq a0
   have q0:=cell_later bq p0
   have q1:=cell_later bq p1
   have q2:=cell_later bq p2
   go_wp2_with fail
   refine (HCP.out _ bq).mono ?_
   rintro e X3 ⟨v3,rfl,⟨z0,hzd,rfl,hoz⟩,bel⟩
   have hzX2:=bq.size
   have bq:=Zb bel bq
   have hvl:=fun q hq=> (hv.lt q hq).2
   have hv:=Zv hv bel (Nat.le_refl _)
   obtain ⟨A5,c5,e5, -⟩:=hoz.own.rd.bytes.open_
   obtain ⟨A6,c6,e6, -⟩:=hoz.own.rd.its.open_
   have hvz:Qr z0= .agg #[.int .i64 z0.n, .slice A5 z0.b.length c5, .slice A6 z0.items.length c6]:=by unfold Qr;rw [e5,e6]
   rw [hvz]
   clear q0 q1 q2 a09
   have hal:Below X3.heap.size X3 (X3.alloc (.cells #[.int .i64 z0.n, .slice A5 z0.b.length c5, .slice A6 z0.items.length c6] 29)):=(Below.refl _ _).alloc (Nat.le_refl _) _
   have HV4:=Fd (Zv hv hal (Nat.le_refl _))
   have HS4:=Fd (show Sl (X3.alloc (.cells #[.int .i64 z0.n, .slice A5 z0.b.length c5, .slice A6 z0.items.length c6] 29)) (X3.heap.size+1) 3 (.slice (some ⟨X3.heap.size,0,none⟩) 1 1) 1 (Ze z0) from by have:=Vl (W:=X3) (x:=z0) (t:=29) rfl;rw [e5,e6] at this;exact this)
   have HB4:=Fd (Zb hal bq)
   have hz4:(X3.alloc (.cells #[.int .i64 z0.n, .slice A5 z0.b.length c5, .slice A6 z0.items.length c6] 29)).heap.size=X3.heap.size+1:=by simp
   have hz3:X2.heap.size≤X3.heap.size:=bel.size
   have HO1:=Fd (Om hoz.own)
   have hA1:∀q,(Value.slice A1 i c1).ownBlock=some q→W.heap.size≤q∧q < X2.heap.size:=fun q hq=> ⟨(hv.lt q hq).1,hvl q hq⟩
   have HA1:=Fd hA1
   have HZ0:=Fd (And.intro hzd (And.intro hoz (And.intro e5 e6)))
   clear hv hal hzd hoz e5 e6 hvz bel bq hA1 hvl
   go_wp2_with (at_builtin;refine Xf _ rfl (.tmp 34) (.tmp 37) 27 rfl W.heap.size 29 i0 (.agg #[.int .i64 0, .slice none 0 0, .slice none 0 0]) 3 56 underlying27 hi hz0 hz1 hz2 rfl (by decide) _ i _ rfl (by exact HV4.out) _ 1 _ (Ze z0) rfl (by exact HS4.out) HO1.out (by omega) (by unfold maxLen;omega) (by omega) ?_;intro v5 X5 hv5 hg5 hvv5)
   have b5:=HB4.out.grown hg5 (by omega) (by intro q hq;exact (HA1.out q hq).1)
   have hz5:X3.heap.size+1≤X5.heap.size:=by have:=hg5.size;omega
   have hoz:=HZ0.out.2.1
   have hz05:z0.own lo X5:=(hoz.own.base (by omega)).keep fun q hq=> by
    have hr:=hoz.rng q hq
    rw [hg5.block q (by omega) (fun e=> by have:=(HA1.out q e.symm).2;omega)]
    exact ((Below.refl X3.heap.size X3).alloc (Nat.le_refl _) _).block q hr.2
   obtain ⟨A7,c7,rfl⟩:=Zm hv5
   have hvv5:(Value.slice A7 (i+1) c7).ownBlock=(Value.slice A1 i c1).ownBlock∨(Value.slice A7 (i+1) c7).ownBlock=some (X3.alloc (.cells #[.int .i64 z0.n, .slice A5 z0.b.length c5, .slice A6 z0.items.length c6] 29)).heap.size:=hvv5
   rw [hz4] at hvv5
   have HV5:=Fd (And.intro hv5 (And.intro hvv5 hz05))
   clear hv5 hg5 hvv5 hz05 hoz HV4 HS4 HB4 hz4 HO1
   have a5:=cell_later b5 a0
   have b5d:=b5.drew
   have u2:=cell_later b5d t2
   go_wp2_with fail
   refine wp_region_held_drew (S:=(fun w9=> w9.cell? ⟨ga,0,none⟩=some (.int .i64 i))) (by kernel_rfl) ?_ (fun hHeld=> ?_)
   ·(try dsimp only);exact cell_later b5d a0
   refine Za 0 (some 39) hHeld _ ?_;try go_frame
   refine Za 1 (some 40) hHeld _ ?_;try go_frame
   refine Za 2 (some 41) hHeld _ ?_;try go_frame
   refine Za 3 (some 42) hHeld _ ?_;try go_frame
   refine Za 4 (some 43) hHeld _ ?_;try go_frame
   refine Za 6 (some 45) hHeld _ ?_;try go_frame
   refine Zi 5 (fun K hK=> ?_)
   (try go_simp)
   refine hK.out _ _ ?_ (fun hHeld=> ?_)
   ·(try dsimp only);first|exact cell_later b5d a0|exact cell_later bq a0|exact (World.cell?_setCell_other _ _ _ _ (by intro e;simp only [Addr.mk.injEq] at e;omega)).trans (cell_later bq a0)
   clear hK K
   try go_frame
   refine Za 7 (some 46) hHeld _ ?_;try go_frame
   refine Zi 8 (fun K hK=> ?_)
   refine Qz _ (.tmp 40) (.tmp 46) 27 rfl W.heap.size 29 i0 (.agg #[.int .i64 0, .slice none 0 0, .slice none 0 0]) 3 56 underlying27 hi hz0 hz1 hz2 rfl (by decide) _ (i+1) _ rfl (by exact Zv HV5.out.1 ((Below.refl X5.heap.size X5).drew) (Nat.le_refl _)) W.heap.size (ny - i) _ ((y.items.drop i).flatMap Ze) rfl (by exact Sl.below HSR.out b5d) HOD.out (by omega) (by unfold maxLen;omega) (by exact b5d.size) ?_;intro v6 X6 hv6 hg6 hvv6;have bq:=b5d.grown hg6 b5d.size (by intro q hq;exact (HV5.out.1.lt q hq).1);obtain ⟨A8,c8,rfl⟩:=Zm hv6
   refine hK.out _ _ ?_ (fun hHeld=> ?_)
   ·(try dsimp only);first|exact cell_later b5d a0|exact cell_later bq a0|exact (World.cell?_setCell_other _ _ _ _ (by intro e;simp only [Addr.mk.injEq] at e;omega)).trans (cell_later bq a0)
   clear hK K
   try go_frame
   refine Za 9 (some 48) hHeld _ ?_;try go_frame
   refine Za 10 (some 49) hHeld _ ?_;try go_frame
   refine Zi 11 (fun K hK=> ?_)
   (try go_simp)
   have x2:=cell_later bq t2;have f2:=(bq.frozen (p:=⟨g',o'+2,none⟩) hgp).trans (Hn.frozen HBX.out.1 HBX.out.2.1 HBX.out.2.2 2 (by omega));go_simp
   refine hK.out _ _ ?_ (fun hHeld=> ?_)
   ·(try dsimp only);first|exact cell_later b5d a0|exact cell_later bq a0|exact (World.cell?_setCell_other _ _ _ _ (by intro e;simp only [Addr.mk.injEq] at e;omega)).trans (cell_later bq a0)
   clear hK K
   try go_frame
   refine wpAnyH_done (by kernel_rfl) ?_ _
   obtain ⟨hv5,hvv5,hz05⟩:=HV5.out
   obtain ⟨hzd,hoz,e5,e6⟩:=HZ0.out
   have hg6':X5.heap.size≤X6.heap.size:=hg6.size
   have hcnt:i+1+(ny - i)=ny+1:=by omega
   have hny:=HN.out
   rw [hcnt] at hv6
   have hbx:=HBX.out.1
   have hpt:=HBX.out.2.2
   have hlo:=HLG.out.1
   have hlg:=HLG.out.2.1
   have hgW:=HLG.out.2.2.1
   obtain ⟨g3,cc3,ev3,hg3⟩:=Ql hv6 (by omega)
   have hr6:W.heap.size≤g3:=(hv6.lt g3 hg3).1
   have hvv6':(Value.slice A8 (i+1+(ny - i)) c8).ownBlock=(Value.slice A7 (i+1) c7).ownBlock∨(Value.slice A8 (i+1+(ny - i)) c8).ownBlock=some X5.heap.size:=hvv6
   have hz6:z0.own lo X6:=hz05.keep fun q hq=> by
    have hr:=hoz.rng q hq
    refine hg6.block q (show q < X5.heap.size by omega) (fun e=> ?_)
    have e:some q=(Value.slice A7 (i+1) c7).ownBlock:=e
    rcases hvv5 with h5|h5
    ·rw [h5] at e;have:=(HA1.out q e.symm).2;omega
    ·rw [h5] at e;have:=Option.some.inj e;omega
   have hg3z:g3 ∉ z0.bks:=fun hq=> by
    have hr:=hoz.rng g3 hq
    have hg3':(Value.slice A8 (i+1+(ny - i)) c8).ownBlock=some g3:=by
     have:=hg3
     cases A8 <;> simp [Value.ownBlock] at this ⊢ <;> exact this
    rcases hvv6' with h6|h6
    ·rw [hg3'] at h6
     rcases hvv5 with h5|h5
     ·rw [←h6] at h5;have:=(HA1.out g3 h5.symm).2;omega
     ·rw [←h6] at h5;have:=Option.some.inj h5;omega
    ·rw [hg3'] at h6;have:=Option.some.inj h6;omega
   have hyW:y.own lo X6:=VM.own_later hpt.own bq
   have hg3y:g3 ∉ y.bks:=fun hq=> by have:=(hpt.own.lt g3 hq).2;omega
   have hzy:∀q∈z0.bks,q ∉ y.bks:=fun q hq hm=> by have:=(hpt.own.lt q hm).2;have:=(hoz.rng q hq).1;omega
   obtain ⟨hN1,hN2⟩:=VM.ins_bks (y:=y) (c:=z0) (i:=i) (vi:= .slice A8 (ny+1) c8) hg3 hg3y hg3z (by
    obtain ⟨rest,hr1, -⟩:=VM.bks_put hpt.sub
    exact (List.nodup_append.1 (hr1.nodup_iff.1 hbx.nd)).1) hoz.nd hzy
   have hown:=VM.ins_own (i:=i) (vi:= .slice A8 (ny+1) c8) hyW hz6 (by omega) (by
    rw [hny]
    have:=Xo hv6 hlW
    exact this)
   obtain ⟨z,hz⟩:∃z,z=VM.mk y.n y.b y.vb (.slice A8 (ny+1) c8) (y.items.take i++z0::y.items.drop i):=⟨_,rfl⟩
   rw [←hz] at hN1 hN2 hown
   have hzD:z.d=Ta i p.d y.d:=by rw [hz,VM.ins_d,hzd]
   obtain ⟨hB6,hlg'⟩:=Vd.set hbx hlg hpt bq hown hN1 (fun q hq=> by
    rcases hN2 q hq with rfl|h1|h1
    ·exact .inl hr6
    ·exact .inl (by have:=(hoz.rng q h1).1;omega)
    ·exact .inr h1) (fun hq=> by
    rcases hN2 g hq with h1|h1|h1
    ·omega
    ·have:=(hoz.rng g h1).1;omega
    ·exact hbx.out (VM.bks_sub hpt.sub h1))
   have hpc:Qq X6 g' o' (Ze z)=X6.setCell ⟨g',o'+2,none⟩ (.slice A8 (ny+1) c8):=by
    have h0:=cell_later bq t0
    have h1:=cell_later bq t1
    rw [hz]
    show ((X6.setCell ⟨g',o',none⟩ (.int .i64 y.n)).setCell ⟨g',o'+1,none⟩ y.vb).setCell ⟨g',o'+2,none⟩ (.slice A8 (ny+1) c8)=_
    rw [HY.out.1,Ux h0,Ux h1]
   rw [hpc] at hB6
   rw [hcnt]
   obtain ⟨X7,hX7⟩:∃X7,X7=X6.setCell ⟨g',o'+2,none⟩ (.slice A8 (ny+1) c8):=⟨_,rfl⟩
   rw [←hX7] at hB6 ⊢
   have hb7:Below lo W X7:=by rw [hX7];exact (bq.mono hlW).setCell (p:=⟨g',o'+2,none⟩) hlg' _
   have hzo:z.own lo X7:=by
    refine VM.own_sub hB6.own (t:=t) ?_
    exact VM.sub_put hpt.sub z
   have r0:X7.cell? ⟨g',o',none⟩=some (.int .i64 y.n):=by rw [hX7,World.cell?_setCell_other _ _ _ _ (by intro e;simp only [Addr.mk.injEq] at e;omega)];exact cell_later bq t0
   have r1:X7.cell? ⟨g',o'+1,none⟩=some (.slice Ay y.b.length cy):=by rw [hX7,World.cell?_setCell_other _ _ _ _ (by intro e;simp only [Addr.mk.injEq] at e;omega)];exact cell_later bq t1
   have r2:X7.cell? ⟨g',o'+2,none⟩=some (.slice A8 (ny+1) c8):=by rw [hX7];exact World.cell?_setCell_same' _ _ _ (by rw [cell_later bq t2];rfl)
   have d7:X7.cell? ⟨gd,0,none⟩=some (.slice (some ⟨b,off,none⟩) l.length c):=Zc d0 hb7 (by omega)
   have hVz:=HV.out z X7.drew (HBW.out.trans (hb7.mono hlo)).drew (VM.own_later hzo ((Below.refl _ _).drew)).rd (by rw [hzD,Lg];have:=HY.out.2.2.1;have:=HY.out.2.2.2;omega)
   have hvz:Qr z= .agg #[.int .i64 y.n, .slice Ay y.b.length cy, .slice A8 (ny+1) c8]:=by rw [hz];unfold Qr;simp only [VM.n_mk,VM.vb_mk,VM.vi_mk,HY.out.1]
   rw [hvz,hzD] at hVz
   have HVZ:=Fd hVz
   have HF:=Fd (And.intro hb7 (And.intro hB6 hzD))
   clear hVz hvz hzo hb7 hB6 hX7 hpc hz hN1 hN2 hown hzy hg3y hyW hg3z hz6 hvv6' hr6 hg3 ev3 hv6 hg6 hvv6 bq hv5 hvv5 hz05 hzd hoz e5 e6 HV HZ0 HV5
   generalize hbv:(Qc (l.map RM.d) k && Zo (l.map RM.d) k (Ta i p.d y.d))=bv at*
   have HBV:=Fd hbv
   clear hbv
   have bq:=(Below.refl X7.heap.size X7).drew
   go_wp2_with fail
   refine wp_region_held_drew (S:=(fun w9=> w9.cell? ⟨gd,0,none⟩=some (.slice (some ⟨b,off,none⟩) l.length c)∧w9.cell? ⟨g',o',none⟩=some (.int .i64 y.n)∧w9.cell? ⟨g',o'+1,none⟩=some (.slice Ay y.b.length cy)∧w9.cell? ⟨g',o'+2,none⟩=some (.slice A8 (ny+1) c8))) (by kernel_rfl) ?_ (fun hHeld=> ?_)
   ·(try dsimp only);exact ⟨d7,r0,r1,r2⟩
   refine Za 0 (some 50) hHeld _ ?_;try go_frame
   refine Za 1 (some 51) hHeld _ ?_;try go_frame
   refine Za 2 (some 52) hHeld _ ?_;try go_frame
   refine Za 3 (some 53) hHeld _ ?_;try go_frame
   refine Za 4 (some 54) hHeld _ ?_;try go_frame
   refine Zi 5 (fun K hK=> ?_)
   go_simp
   refine HVZ.out.mono ?_;rintro e w8 ⟨rfl,bel⟩;have bq:=bq.trans (bel.mono (Nat.le_refl _))
   (try go_wp2_with fail)
   refine hK.out _ _ ?_ (fun hHeld=> ?_)
   ·(try dsimp only);exact ⟨cell_later bq d7,cell_later bq r0,cell_later bq r1,cell_later bq r2⟩
   clear hK K
   try go_frame
   refine Za 6 (some 7) hHeld _ ?_;try go_frame
   refine wpAnyH_done (by kernel_rfl) ?_ _
   go_wp2
   go_ret
   have hbb:=HF.out.1.trans (bq.mono (by have:=HF.out.1.size;omega))
   cases bv with
   |false=> exact ⟨hbb, .inl ⟨HC.out.trans (Gs HBV.out _),rfl⟩⟩
   |true=> exact ⟨hbb, .inr ⟨z,rfl,by rw [HF.out.2.2];exact HC.out.trans (Ia HBV.out _),HF.out.2.1.later bq⟩⟩
 ·have HC:=Fd (Mj (D:=l.map RM.d) (at_:=at_) (P:=p.d) (k:=(k:Int)) (y:=y.d) (by rw [hik];simp [hkd]))
  clear hik hyl
  generalize l[k].d.kind=kk at*
  generalize y.items.length=ny at*
  have f5:(kk !=5)=true:=bne_iff_ne.2 hkd
  have bq:=(Below.refl W.heap.size W).drew
  go_enter func25,ntmps25
  go_wp2_with fail
  refine wp_region_held_drew (S:=(fun w9=> w9.cell? ⟨gd,0,none⟩=some (.slice (some ⟨b,off,none⟩) l.length c)∧w9.cell? ⟨b,off+k*8+1,none⟩=some (.int .i64 kk))) (by kernel_rfl) ?_ (fun hHeld=> ?_)
  ·(try dsimp only);exact ⟨d0,x1⟩
  refine Za 0 (some 9) hHeld _ ?_;try go_frame
  refine Za 1 (some 10) hHeld _ ?_;try go_frame
  refine Za 2 (some 11) hHeld _ ?_;try go_frame
  refine Za 3 (some 12) hHeld _ ?_;try go_frame
  refine Za 4 (some 13) hHeld _ ?_;try go_frame
  refine Za 5 (some 14) hHeld _ ?_;try go_frame
  refine Za 6 (some 15) hHeld _ ?_;try go_frame
  refine Za 7 (some 16) hHeld _ ?_;try go_frame
  refine Zh 8 (some 17) hHeld ?_;try go_frame
  refine Zh 9 (some 18) hHeld ?_;try go_frame
  refine Zh 10 (some 19) hHeld ?_;try go_frame
  refine Zh 11 (some 20) hHeld ?_;try go_frame
  refine Zh 12 (some 21) hHeld ?_;try go_frame
  refine Zh 13 (some 22) hHeld ?_;try go_frame
  refine Zh 14 (some 23) hHeld ?_;try go_frame
  refine Zh 15 (some 24) hHeld ?_;try go_frame
  refine Za 16 (some 25) hHeld _ ?_;try go_frame
  refine wpAnyH_done (by kernel_rfl) ?_ _
  go_wp2
  go_ret
  exact ⟨(bq.mono hlW), .inl ⟨HC.out,rfl⟩⟩
theorem implIns_any (vD:Value) (l:List RM) (x p:VM) (s:ByteArray) (at_:Int) (B:Nat) (w:World) (h:Jc w B vD l) (hB:B≤w.heap.size) (ok:∀r∈l,r.d.ok) (sm:∀r∈l,r.d.small 1048576) (hx:x.rd w B) (hs:x.d.size≤2097152) (hp:p.rd w B) (hps:p.d.size≤1048576) (hss:s.size≤2097152) (ht:Tab w):
  Calls prog 7 #[.agg #[vD],Qr x, .string s, .int .i64 at_,Qr p] w (Pa (Vx (Jg (l.map RM.d) x.d (Qu Zf s) (Yl Zf s) (Rv (l.map RM.d) at_ p.d)).1) (.bool (Jg (l.map RM.d) x.d (Qu Zf s) (Yl Zf s) (Rv (l.map RM.d) at_ p.d)).2) w):=by
 have hE:∀(gd ga gp:Nat) W,Below w.heap.size w W→W.cell? ⟨gd,0,none⟩=some vD→W.cell? ⟨ga,0,none⟩=some (.int .i64 at_)→W.cell? ⟨gp,0,none⟩=some (.int .i64 p.n)→W.cell? ⟨gp,1,none⟩=some p.vb→W.cell? ⟨gp,2,none⟩=some p.vi→
   Calls prog 24 #[.agg #[vD],Qr x, .string s, .func (.func 25) #[] #[.pointer (some ⟨gd,0,none⟩), .pointer (some ⟨ga,0,none⟩), .pointer (some ⟨gp,0,none⟩)]] W (Pa (Vx (Jg (l.map RM.d) x.d (Qu Zf s) (Yl Zf s) (Rv (l.map RM.d) at_ p.d)).1) (.bool (Jg (l.map RM.d) x.d (Qu Zf s) (Yl Zf s) (Rv (l.map RM.d) at_ p.d)).2) W):=fun gd ga gp W hb d0 a0 p0 p1 p2=>
  editIns_any vD l x s B W (h.below (hb.mono hB)) (by have:=hb.size;omega) ok sm (hx.bel (hb.mono hB)) hs hss (Rq ht hb) _ gd ga gp
   fun x' S lo g t y k g' o' W' hb' hlo hlg hg hlW hbx hfz hxs _ hpt=> insClo_any vD l p at_ gd ga gp B W (h.below (hb.mono hB)) (by have:=hb.size;omega) ok sm (hp.bel (hb.mono hB)) hps d0 a0 p0 p1 p2 x' S lo g t y k g' o' W' hb' hlo hlg hg hlW hbx hfz hxs hpt
 obtain ⟨A,c,rfl,hc,hm, -⟩:=h.open_
 obtain ⟨Ax,cx,ex, -⟩:=hx.bytes.open_
 obtain ⟨Ay,cy,ey, -⟩:=hx.its.open_
 obtain ⟨Ap,cp,ep, -⟩:=hp.bytes.open_
 obtain ⟨Aq,cq,eq, -⟩:=hp.its.open_
 unfold Qr at hE ⊢
 rw [ex,ey] at hE ⊢
 rw [ep,eq] at hE ⊢
 have HE:=Fd hE
 generalize Jg (l.map RM.d) x.d (Qu Zf s) (Yl Zf s) (Rv (l.map RM.d) at_ p.d)=f at*
 clear hE h hx hp ok sm ht hs hps ex ey ep eq hc hm
 generalize l.length=nl at*
 generalize x.items.length=nx at*
 generalize p.items.length=np at*
 obtain ⟨W0,hW0⟩:∃W0,W0=(((((w.alloc (.cells #[.slice A nl c] 26)).alloc (.cells #[.int .i64 x.n, .slice Ax x.b.length cx, .slice Ay nx cy] 29)).alloc (.cells #[.int .i64 at_] 3)).alloc (.cells #[.int .i64 p.n, .slice Ap p.b.length cp, .slice Aq np cq] 29)).alloc (.cells #[.int .i64 0, .slice none 0 0, .slice none 0 0] 29)):=⟨_,rfl⟩
 have hb0:Below w.heap.size w W0:=by rw [hW0];exact (((((Below.refl w.heap.size w).alloc (Nat.le_refl _) _).alloc (by simp) _).alloc (by simp;omega) _).alloc (by simp;omega) _).alloc (by simp;omega) _
 have hz0:W0.heap.size=w.heap.size+5:=by rw [hW0];simp
 have s0:W0.cell? ⟨w.heap.size,0,none⟩=some (.slice A nl c):=by rw [hW0];simp [go_sem]
 have v0:W0.cell? ⟨w.heap.size+1,0,none⟩=some (.int .i64 x.n):=by rw [hW0];simp [go_sem]
 have v1:W0.cell? ⟨w.heap.size+1,1,none⟩=some (.slice Ax x.b.length cx):=by rw [hW0];simp [go_sem]
 have v2:W0.cell? ⟨w.heap.size+1,2,none⟩=some (.slice Ay nx cy):=by rw [hW0];simp [go_sem]
 have a0:W0.cell? ⟨w.heap.size+1+1,0,none⟩=some (.int .i64 at_):=by rw [hW0];simp [go_sem]
 have p0:W0.cell? ⟨w.heap.size+1+1+1,0,none⟩=some (.int .i64 p.n):=by rw [hW0];simp [go_sem]
 have p1:W0.cell? ⟨w.heap.size+1+1+1,1,none⟩=some (.slice Ap p.b.length cp):=by rw [hW0];simp [go_sem]
 have p2:W0.cell? ⟨w.heap.size+1+1+1,2,none⟩=some (.slice Aq np cq):=by rw [hW0];simp [go_sem]
 have HR3:B3 W0 (w.heap.size+1+1+1+1) (.int .i64 0) (.slice none 0 0) (.slice none 0 0):=by
  rw [hW0]
  have:=B3.new ((((w.alloc (.cells #[.slice A nl c] 26)).alloc (.cells #[.int .i64 x.n, .slice Ax x.b.length cx, .slice Ay nx cy] 29)).alloc (.cells #[.int .i64 at_] 3)).alloc (.cells #[.int .i64 p.n, .slice Ap p.b.length cp, .slice Aq np cq] 29)) (.int .i64 0) (.slice none 0 0) (.slice none 0 0) 29
  simpa using this
 have HE1:=Fd (HE.out w.heap.size (w.heap.size+1+1) (w.heap.size+1+1+1) W0 hb0 s0 a0 p0 p1 p2)
 clear HE
 go_enter func7,ntmps7
 go_upto_region 1 with fail
 rw [←hW0]
 clear hW0
 go_wp2_with fail
 refine HE1.out.mono ?_
 rintro e w4 ⟨v,rfl,ho,bel⟩
 have HB:=Fd (Zb bel hb0)
 have RB:=HR3.later bel
 obtain ⟨A1,c1,A2,c2,rfl⟩:=ho.agg
 have HO:=Fd ho
 have HZ:=Fd bel.size
 clear ho bel p0 p1 p2 s0 v0 v1 v2 a0 HR3 HE1
 obtain ⟨lt,t0,t1,t2,f0,f1,f2⟩:=RB
 go_wp2
 refine bodyPost_ret (v:= .tuple #[.agg #[.int .i64 f.1.n, .slice A1 f.1.b.length c1, .slice A2 f.1.items.length c2], .bool f.2]) (by simp [results,results7,go_sem,t0,t1,t2]) rfl ⟨_,rfl,?_,Qf HB.out (by omega) _ _ _⟩
 have hz:=HZ.out
 refine (HO.out.set3 (g:=w.heap.size+1+1+1+1) (.inr (by omega)) _ _ _).wide (by omega) (by simp)
end Go.Proofs.YteldgdelmaeokaaGreatDoor
