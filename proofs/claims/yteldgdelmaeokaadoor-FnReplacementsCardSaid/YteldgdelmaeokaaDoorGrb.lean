/- Out of ValEdR, ValRp: the walks and plain laws that the claim needs. No condition but those that each theorem names. -/
import Derived.Test.YteldgdelmaeokaaDoorGra
import Derived.WalkSpells
import Derived.WalkLawsBesides
import Derived.Deep.RegionHeld3
set_option linter.unusedSimpArgs false
set_option linter.unusedVariables false
namespace Go.Proofs.YteldgdelmaeokaaDoor
open Go.RowKit
set_option maxHeartbeats 4000000 in
set_option maxRecDepth 100000 in
theorem editRep_any (vD:Value) (l:List RM) (x:VM) (s:ByteArray) (B:Nat) (w:World) (h:SlD w B vD l) (hB:B≤w.heap.size) (ok:∀r∈l,r.d.ok) (sm:∀r∈l,r.d.small 1048576) (hx:x.rd w B) (hs:x.d.size≤4194304) (hss:s.size≤2097152) (ht:Tab w)
  (chg:Int→Val→Option Val) (gd gp:Nat)
  (hCH:∀(x':VM) (S:List ByteArray) (lo g:Nat) (t:List Nat) (y:VM) (k g' o':Nat) (W:World),Below w.heap.size w W→w.heap.size≤lo→lo≤g→g < W.heap.size→lo≤W.heap.size→BoxV W lo g 0 x'→(∀i,i < 3→W.frozen? ⟨g,i,none⟩=false)→x'.d.size≤4194304→knownD (l.map RM.d) ((l.length:Int) - 1)=true→PtI (l.map RM.d) x' S W lo g 0 S.length t y k g' o'→
    Calls Tryd.prog 30 #[.pointer (some ⟨g',o',none⟩), .int .i64 k, .pointer (some ⟨gd,0,none⟩), .pointer (some ⟨gp,0,none⟩)] W (ChE x' t lo g (chg k y.d) W)):
  Calls Tryd.prog 29 #[.agg #[vD],vmV x, .string s, .func (.func 30) #[] #[.pointer (some ⟨gd,0,none⟩), .pointer (some ⟨gp,0,none⟩)]] w
   (Made2 (OwV (editV (l.map RM.d) x.d (spOk isStep s) (spL isStep s) chg).1) (.bool (editV (l.map RM.d) x.d (spOk isStep s) (spL isStep s) chg).2) w):=by
 have hlm:(l.map RM.d).length=l.length:=List.length_map ..
 have hR:∀W,Below w.heap.size w W→Calls Tryd.prog 51 #[.agg #[vD]] W fun e w'=> e= .returned (.int .i64 ((l.length:Int) - 1))∧Below W.heap.size W w':=fun W hb=> implRoot_any vD l B W (h.below (hb.mono hB))
 have hSP:∀W,Below w.heap.size w W→Calls Tryd.prog 50 #[.string s] W fun e w'=> ∃v,e= .returned (.tuple #[v, .bool (spOk isStep s)])∧OwS (spL isStep s) W.heap.size w'.heap.size w' v∧Below W.heap.size W w':=fun W hb=> implSplitPath_law s W hss
 have hV:∀W,Below w.heap.size w W→Calls Tryd.prog 31 #[.agg #[vD], .int .i64 ((l.length:Int) - 1),vmV x] W fun e w'=> e= .returned (.bool (knownD (l.map RM.d) ((l.length:Int) - 1) && validV (l.map RM.d) ((l.length:Int) - 1) x.d))∧Below W.heap.size W w':=fun W hb=>
  implValidValue_any vD l _ x w.heap.size W ((h.below (hb.mono hB)).more hB) hb.size ok sm ((hx.bel (hb.mono hB)).more hB) hs
 have hsz:∀p∈spL isStep s,p.size≤maxLen:=fun p hp=> by
  unfold spL at hp
  split at hp
  ·have:=splitT_sizes s 47 p (List.mem_of_mem_tail hp)
   unfold maxLen;omega
  ·cases hp
 have hP:∀(x':VM) (lo:Nat),x'.d=x.d→knownD (l.map RM.d) ((l.length:Int) - 1)=true→validV (l.map RM.d) ((l.length:Int) - 1) x.d=true→∀W (g:Nat) (vS:Value),Below w.heap.size w W→x'.own lo W→SlS W W.heap.size vS (spL isStep s)→W.cell? ⟨g,0,none⟩=some (.int .i64 x'.n)→W.cell? ⟨g,1,none⟩=some x'.vb→W.cell? ⟨g,2,none⟩=some x'.vi→
   Calls Tryd.prog 52 #[.agg #[vD], .pointer (some ⟨g,0,none⟩),vS] W fun e w'=> Below W.heap.size W w'∧PartE (l.map RM.d) x' (spL isStep s) W lo g 0 e:=fun x' lo hd hk hv W g vS hb hx' hS a0 a1 a2=> by
  have hrg:=knownD_at hk
  have hl:0 < l.length:=by omega
  rw [root_int hl] at hv
  exact partAt_any vD l x' lo g 0 vS (spL isStep s) B W (h.below (hb.mono hB)) (by have:=hb.size;omega) ok sm (knownD_valid hk) hl hx' (by rw [hd];exact hs) (by rw [hd];exact hv) a0 (by rw [Nat.zero_add];exact a1) (by rw [Nat.zero_add];exact a2) hS hsz (tab_on ht hb)
 have hCP:∀W,Below w.heap.size w W→Calls Tryd.prog 32 #[vmV x] W (Made (OwV x.d) W):=fun W hb=>
  implCopy_any x w.heap.size W ((hx.bel (hb.mono hB)).more hB) hb.size hs
 obtain ⟨A,c,rfl,hc,hm, -⟩:=h.open_
 obtain ⟨Ax,cx,ex, -⟩:=hx.bytes.open_
 obtain ⟨Ay,cy,ey, -⟩:=hx.its.open_
 have hvm:vmV x= .agg #[.int .i64 x.n, .slice Ax x.b.length cx, .slice Ay x.items.length cy]:=by unfold vmV;rw [ex,ey]
 rw [hvm] at hV hCP ⊢
 have HR:=Lib.hid hR
 have HSP:=Lib.hid hSP
 have HV:=Lib.hid hV
 have HP:=Lib.hid hP
 have HCP:=Lib.hid hCP
 have HCH:=Lib.hid hCH
 have HLM:=Lib.hid hlm
 have HSX:=Lib.hid hs
 have hnx:x.d.items.length=x.items.length:=by rw [VM.items_d,List.length_map]
 have HNX:=Lib.hid hnx
 clear hR hSP hV hP hCP hCH hlm ok sm h hs hss ht hsz hx ex ey hvm hnx hc
 unfold maxLen at hm
 obtain ⟨W0,hW0⟩:∃W0,W0=(((w.alloc (.cells #[.slice A l.length c] 26)).alloc (.cells #[.int .i64 x.n, .slice Ax x.b.length cx, .slice Ay x.items.length cy] 29)).alloc (.cells #[.int .i64 0, .slice none 0 0, .slice none 0 0] 29)):=⟨_,rfl⟩
 have hb0:Below w.heap.size w W0:=by rw [hW0];exact (((Below.refl w.heap.size w).alloc (Nat.le_refl _) _).alloc (by simp) _).alloc (by simp;omega) _
 have hz0:W0.heap.size=w.heap.size+3:=by rw [hW0];simp
 have y0:W0.cell? ⟨w.heap.size,0,none⟩=some (.slice A l.length c):=by rw [hW0];simp [go_sem]
 have HV3:B3 W0 (w.heap.size+1) (.int .i64 x.n) (.slice Ax x.b.length cx) (.slice Ay x.items.length cy):=by
  rw [hW0]
  refine B3.alloc ?_ _
  have:=B3.new (w.alloc (.cells #[.slice A l.length c] 26)) (.int .i64 x.n) (.slice Ax x.b.length cx) (.slice Ay x.items.length cy) 29
  simpa using this
 have HR3:B3 W0 (w.heap.size+1+1) (.int .i64 0) (.slice none 0 0) (.slice none 0 0):=by
  rw [hW0]
  have:=B3.new ((w.alloc (.cells #[.slice A l.length c] 26)).alloc (.cells #[.int .i64 x.n, .slice Ax x.b.length cx, .slice Ay x.items.length cy] 29)) (.int .i64 0) (.slice none 0 0) (.slice none 0 0) 29
  simpa using this
 go_enter Tryd.func29,Tryd.ntmps29
 go_wp2_with fail
 rw [←hW0]
 clear hW0
 refine (HSP.out _ hb0).mono ?_
 rintro e w2 ⟨vs,rfl,hrd,bel⟩
 have b2:=below_step bel hb0
 have y2:=cell_later bel y0
 have HV3:=HV3.later bel
 have HR3:=HR3.later bel
 have z2:w.heap.size+3≤w2.heap.size:=by have:=bel.size;omega
 have hsl:=hrd.sl
 obtain ⟨As,cs,rfl,hcs,hms,hsc⟩:=hsl.one
 have HSL:=Lib.hid hsl
 clear bel y0 hb0 hrd hsc hsl HSP
 cases hok:spOk isStep s
 ·have HX:=Lib.hid (editV_no (D:=l.map RM.d) (x:=x.d) (ok:=spOk isStep s) (S:=spL isStep s) (chg:=chg) (by rw [hok];rfl))
  clear HP HR HV HSL HCH hok
  generalize spL isStep s=S at*
  generalize x.d=xd at*
  generalize x.items.length=nx at*
  obtain ⟨lt',p0,p1,p2,g0,g1,g2⟩:=HV3
  go_wp2_with fail
  refine wp_region_held_drew (S:=(fun w9=> w9.cell? ⟨w.heap.size,0,none⟩=some (.slice A l.length c))) (by kernel_rfl) ?_ (fun hHeld=> ?_)
  ·(try dsimp only);exact y2
  refine rgTake 0 (some 20) hHeld _ ?_;try go_frame
  refine rgTake 1 (some 21) hHeld _ ?_;try go_frame
  refine rgTake 2 (some 22) hHeld _ ?_;try go_frame
  refine rgSkip 3 (some 23) hHeld ?_;try go_frame
  refine rgSkip 4 (some 24) hHeld ?_;try go_frame
  refine rgSkip 5 (some 25) hHeld ?_;try go_frame
  refine rgSkip 6 (some 26) hHeld ?_;try go_frame
  refine rgSkip 7 (some 27) hHeld ?_;try go_frame
  refine rgSkip 8 (some 28) hHeld ?_;try go_frame
  refine rgTake 9 (some 29) hHeld _ ?_;try go_frame
  refine wpAnyH_done (by kernel_rfl) ?_ _
  go_wp2_with fail
  refine (HCP.out _ (b2.drew)).mono ?_
  rintro e wc ⟨vc,rfl,hoc,belc⟩
  have HB:=Lib.hid (below_step belc (b2.drew))
  have RB:=HR3.later (((Below.refl w2.heap.size w2).drew).trans (belc.mono (by exact Nat.le_refl _)))
  obtain ⟨Ac,cc,Ac',cc',rfl⟩:=hoc.agg
  have hoc:OwV xd w2.heap.size wc.heap.size wc _:=hoc
  have hz:w2.heap.size≤wc.heap.size:=belc.size
  have HO:=Lib.hid hoc
  clear hoc belc
  obtain ⟨lt,t0,t1,t2,f0,f1,f2⟩:=RB
  go_wp2
  rw [HX.out]
  refine bodyPost_ret (v:= .tuple #[.agg #[.int .i64 xd.n, .slice Ac xd.b.length cc, .slice Ac' xd.items.length cc'], .bool false]) (by simp [results,Tryd.results29,go_sem,t0,t1,t2]) rfl ⟨_,rfl,?_,below_set3 HB.out (by omega) _ _ _⟩
  refine (HO.out.set3 (g:=w.heap.size+1+1) (.inr (by omega)) _ _ _).wide (by omega) (by simp)
 ·obtain ⟨lt',p0,p1,p2,g0,g1,g2⟩:=HV3
  cases hval:(knownD (l.map RM.d) ((l.length:Int) - 1) && validV (l.map RM.d) ((l.length:Int) - 1) x.d)
  ·rw [hval] at HV
   have HX:=Lib.hid (editV_no (D:=l.map RM.d) (x:=x.d) (ok:=spOk isStep s) (S:=spL isStep s) (chg:=chg) (by rw [hok,HLM.out,hval];rfl))
   clear HP HSL HCH hok hval
   generalize spL isStep s=S at*
   generalize x.d=xd at*
   generalize x.items.length=nx at*
   go_wp2_with fail
   refine wp_region_held_drew (S:=(fun w9=> w9.cell? ⟨w.heap.size,0,none⟩=some (.slice A l.length c)∧w9.cell? ⟨w.heap.size+1,0,none⟩=some (.int .i64 x.n)∧w9.cell? ⟨w.heap.size+1,1,none⟩=some (.slice Ax x.b.length cx)∧w9.cell? ⟨w.heap.size+1,2,none⟩=some (.slice Ay nx cy))) (by kernel_rfl) ?_ (fun hHeld=> ?_)
   ·(try dsimp only);exact ⟨y2,p0,p1,p2⟩
   refine rgTake 0 (some 20) hHeld _ ?_;try go_frame
   refine rgTake 1 (some 21) hHeld _ ?_;try go_frame
   refine rgTake 2 (some 22) hHeld _ ?_;try go_frame
   refine rgTake 3 (some 23) hHeld _ ?_;try go_frame
   refine rgTake 4 (some 24) hHeld _ ?_;try go_frame
   refine rgTake 6 (some 26) hHeld _ ?_;try go_frame
   refine rgStep 5 (fun K hK=> ?_)
   go_simp
   refine (HR.out _ b2.drew).mono ?_;rintro e w7 ⟨rfl,bel7⟩;have bq:=below_step bel7 ((Below.refl w2.heap.size w2).drew);have bw:=below_step bel7 b2.drew
   (try go_wp2_with fail)
   refine hK.out _ _ ?_ (fun hHeld=> ?_)
   ·(try dsimp only);exact ⟨cell_later bq y2,cell_later bq p0,cell_later bq p1,cell_later bq p2⟩
   clear hK K
   try go_frame
   refine rgStep 7 (fun K hK=> ?_)
   go_simp
   refine (HV.out _ bw).mono ?_;rintro e w8 ⟨rfl,bel8⟩;have bq:=below_step bel8 bq;have bw:=below_step bel8 bw
   (try go_wp2_with fail)
   refine hK.out _ _ ?_ (fun hHeld=> ?_)
   ·(try dsimp only);exact ⟨cell_later bq y2,cell_later bq p0,cell_later bq p1,cell_later bq p2⟩
   clear hK K
   try go_frame
   refine rgTake 8 (some 28) hHeld _ ?_;try go_frame
   refine rgTake 9 (some 29) hHeld _ ?_;try go_frame
   refine wpAnyH_done (by kernel_rfl) ?_ _
   have HR3:=HR3.later bq
   have r0:=cell_later bq p0
   have r1:=cell_later bq p1
   have r2:=cell_later bq p2
   clear p0 p1 p2
   have hz8:w.heap.size+3≤w8.heap.size:=by have:=bq.size;omega
   clear bel7 bel8 bq
   go_wp2_with fail
   refine (HCP.out _ (bw)).mono ?_
   rintro e wc ⟨vc,rfl,hoc,belc⟩
   have HB:=Lib.hid (below_step belc (bw))
   have RB:=HR3.later belc
   obtain ⟨Ac,cc,Ac',cc',rfl⟩:=hoc.agg
   have hoc:OwV xd w8.heap.size wc.heap.size wc _:=hoc
   have hz:w8.heap.size≤wc.heap.size:=belc.size
   have HO:=Lib.hid hoc
   clear hoc belc
   obtain ⟨lt,t0,t1,t2,f0,f1,f2⟩:=RB
   go_wp2
   rw [HX.out]
   refine bodyPost_ret (v:= .tuple #[.agg #[.int .i64 xd.n, .slice Ac xd.b.length cc, .slice Ac' xd.items.length cc'], .bool false]) (by simp [results,Tryd.results29,go_sem,t0,t1,t2]) rfl ⟨_,rfl,?_,below_set3 HB.out (by omega) _ _ _⟩
   refine (HO.out.set3 (g:=w.heap.size+1+1) (.inr (by omega)) _ _ _).wide (by omega) (by simp)
  ·rw [hval] at HV
   have hkn:knownD (l.map RM.d) ((l.length:Int) - 1)=true∧validV (l.map RM.d) ((l.length:Int) - 1) x.d=true:=by simpa using hval
   have HKN:=Lib.hid hkn
   have HXT:=Lib.hid (show (spOk isStep s && (knownD (l.map RM.d) (((l.map RM.d).length:Int) - 1) && validV (l.map RM.d) (((l.map RM.d).length:Int) - 1) x.d))=true by rw [hok,HLM.out,hval];rfl)
   clear hok hval hkn
   generalize spL isStep s=S at*
   go_wp2_with fail
   refine wp_region_held_drew (S:=(fun w9=> w9.cell? ⟨w.heap.size,0,none⟩=some (.slice A l.length c)∧w9.cell? ⟨w.heap.size+1,0,none⟩=some (.int .i64 x.n)∧w9.cell? ⟨w.heap.size+1,1,none⟩=some (.slice Ax x.b.length cx)∧w9.cell? ⟨w.heap.size+1,2,none⟩=some (.slice Ay x.items.length cy))) (by kernel_rfl) ?_ (fun hHeld=> ?_)
   ·(try dsimp only);exact ⟨y2,p0,p1,p2⟩
   refine rgTake 0 (some 20) hHeld _ ?_;try go_frame
   refine rgTake 1 (some 21) hHeld _ ?_;try go_frame
   refine rgTake 2 (some 22) hHeld _ ?_;try go_frame
   refine rgTake 3 (some 23) hHeld _ ?_;try go_frame
   refine rgTake 4 (some 24) hHeld _ ?_;try go_frame
   refine rgTake 6 (some 26) hHeld _ ?_;try go_frame
   refine rgStep 5 (fun K hK=> ?_)
   go_simp
   refine (HR.out _ b2.drew).mono ?_;rintro e w7 ⟨rfl,bel7⟩;have bq:=below_step bel7 ((Below.refl w2.heap.size w2).drew);have bw:=below_step bel7 b2.drew
   (try go_wp2_with fail)
   refine hK.out _ _ ?_ (fun hHeld=> ?_)
   ·(try dsimp only);exact ⟨cell_later bq y2,cell_later bq p0,cell_later bq p1,cell_later bq p2⟩
   clear hK K
   try go_frame
   refine rgStep 7 (fun K hK=> ?_)
   go_simp
   refine (HV.out _ bw).mono ?_;rintro e w8 ⟨rfl,bel8⟩;have bq:=below_step bel8 bq;have bw:=below_step bel8 bw
   (try go_wp2_with fail)
   refine hK.out _ _ ?_ (fun hHeld=> ?_)
   ·(try dsimp only);exact ⟨cell_later bq y2,cell_later bq p0,cell_later bq p1,cell_later bq p2⟩
   clear hK K
   try go_frame
   refine rgTake 8 (some 28) hHeld _ ?_;try go_frame
   refine rgTake 9 (some 29) hHeld _ ?_;try go_frame
   refine wpAnyH_done (by kernel_rfl) ?_ _
   have HR3:=HR3.later bq
   have HSL:=Lib.hid ((Sl.below HSL.out bq).more bq.size)
   have r0:=cell_later bq p0
   have r1:=cell_later bq p1
   have r2:=cell_later bq p2
   have y8:=cell_later bq y2
   have b8:=bw
   have hz8:w.heap.size+3≤w8.heap.size:=by have:=bq.size;omega
   clear bel7 bel8 bq bw y2 p0 p1 p2 g0 g1 g2 HR HV b2 lt'
   go_wp2_with fail
   refine (HCP.out _ b8).mono ?_
   rintro e w1 ⟨v,rfl,⟨x',hd,rfl,ho⟩,bel⟩
   obtain ⟨A7,c7,e7, -⟩:=ho.own.rd.bytes.open_
   obtain ⟨A8,c8,e8, -⟩:=ho.own.rd.its.open_
   have hvm:vmV x'= .agg #[.int .i64 x'.n, .slice A7 x'.b.length c7, .slice A8 x'.items.length c8]:=by unfold vmV;rw [e7,e8]
   rw [hvm]
   obtain ⟨W2,hW2⟩:∃W2,W2=w1.alloc (.cells #[.int .i64 x'.n, .slice A7 x'.b.length c7, .slice A8 x'.items.length c8] 29):=⟨_,rfl⟩
   have h12:Below w1.heap.size w1 W2:=by rw [hW2];exact (Below.refl _ _).alloc (Nat.le_refl _) _
   have BB2:B3 W2 w1.heap.size (.int .i64 x'.n) (.slice A7 x'.b.length c7) (.slice A8 x'.items.length c8):=by rw [hW2];exact B3.new w1 _ _ _ _
   have hz2:W2.heap.size=w1.heap.size+1:=by rw [hW2];simp
   have b02:=bel.trans (h12.mono bel.size)
   have hb2:=below_step h12 (below_step bel b8)
   have s2:=cell_later b02 y8
   have r0:=cell_later b02 r0
   have r1:=cell_later b02 r1
   have r2:=cell_later b02 r2
   have HR3:=HR3.later b02
   have ho2:=ho.keep (Out.of_below h12 0 0) (.inr (Nat.zero_le _))
   have HBX:=Lib.hid (show BoxV W2 w8.heap.size w1.heap.size 0 x' from ⟨fun i u hu=> by
    rw [Nat.zero_add]
    simp only [vmCells,e7,e8] at hu
    match i,hu with
    |0,hu=> simp only [List.getElem?_cons_zero,Option.some.injEq] at hu;subst hu;exact BB2.c0
    |1,hu=> simp only [List.getElem?_cons_succ,List.getElem?_cons_zero,Option.some.injEq] at hu;subst hu;exact BB2.c1
    |2,hu=> simp only [List.getElem?_cons_succ,List.getElem?_cons_zero,Option.some.injEq] at hu;subst hu;exact BB2.c2
    |i+3,hu=> simp at hu,ho2.own,ho2.nd,fun hm=> by have:=(ho2.rng _ hm).2;omega⟩)
   have HSL:=Lib.hid ((Sl.below HSL.out b02).more b02.size)
   have HPX:=Lib.hid (HP.out x' w8.heap.size hd HKN.out.1 HKN.out.2 W2 w1.heap.size (.slice As S.length cs) hb2 ho2.own HSL.out BB2.c0 (by rw [e7];exact BB2.c1) (by rw [e8];exact BB2.c2))
   have HD:=Lib.hid (And.intro hd (And.intro hvm bel.size))
   have hz1:w.heap.size+3≤w1.heap.size:=by have:=bel.size;omega
   obtain ⟨lb,a0,a1,a2,f0,f1,f2⟩:=BB2
   clear bel ho ho2 e7 e8 hvm hd HP y8 h12 b02 b8
   generalize hnn:x'.n=nn at*
   generalize hnb:x'.b.length=nb at*
   generalize hni:x'.items.length=ni at*
   have HNN:=Lib.hid (And.intro hnn (And.intro hnb hni))
   clear hnn hnb hni
   go_upto_region 5 with fail
   rw [←hW2]
   clear hW2
   go_wp2_with fail
   refine HPX.out.mono ?_
   rintro e w9 ⟨bel9,⟨hn,rfl⟩|⟨t,y,k,g',o',hp,rfl⟩⟩
   ·rw [HD.out.1] at hn
    have HX:=Lib.hid (editV_none (ok:=spOk isStep s) (chg:=chg) hn)
    have HR3:=HR3.later bel9
    have bw:=below_step bel9 hb2
    have r0:=cell_later bel9 r0
    have r1:=cell_later bel9 r1
    have r2:=cell_later bel9 r2
    have z9:=bel9.size
    clear hn bel9 HD HPX HBX HSL HCH a0 a1 a2 s2 HKN HXT hb2
    generalize x.d=xd at*
    generalize x.items.length=nx at*
    go_wp2_with fail
    refine (HCP.out _ (bw)).mono ?_
    rintro e wc ⟨vc,rfl,hoc,belc⟩
    have HB:=Lib.hid (below_step belc (bw))
    have RB:=HR3.later belc
    obtain ⟨Ac,cc,Ac',cc',rfl⟩:=hoc.agg
    have hoc:OwV xd w9.heap.size wc.heap.size wc _:=hoc
    have hz:w9.heap.size≤wc.heap.size:=belc.size
    have HO:=Lib.hid hoc
    clear hoc belc
    obtain ⟨lt,t0,t1,t2,f0,f1,f2⟩:=RB
    go_wp2
    rw [HX.out]
    refine bodyPost_ret (v:= .tuple #[.agg #[.int .i64 xd.n, .slice Ac xd.b.length cc, .slice Ac' xd.items.length cc'], .bool false]) (by simp [results,Tryd.results29,go_sem,t0,t1,t2]) rfl ⟨_,rfl,?_,below_set3 HB.out (by omega) _ _ _⟩
    refine (HO.out.set3 (g:=w.heap.size+1+1) (.inr (by omega)) _ _ _).wide (by omega) (by simp)
   ·have hw:=hp.rdi.done (Nat.le_refl _)
    rw [HD.out.1] at hw
    have r0:=cell_later bel9 r0
    have r1:=cell_later bel9 r1
    have r2:=cell_later bel9 r2
    have HR3:=HR3.later bel9
    have a0:=cell_later bel9 a0
    have a1:=cell_later bel9 a1
    have a2:=cell_later bel9 a2
    have b9:=below_step bel9 hb2
    have hbx:=HBX.out.later bel9
    have hfz:∀i,i < 3→w9.frozen? ⟨w1.heap.size,i,none⟩=false:=fun i hi=> by
     rw [bel9.frozen (p:=⟨w1.heap.size,i,none⟩) lb]
     match i,hi with
     |0,_=> exact f0
     |1,_=> exact f1
     |2,_=> exact f2
    have hcl:=HCH.out x' S w8.heap.size w1.heap.size t y k g' o' w9 b9 (by omega) HD.out.2.2 (by have:=bel9.size;omega) (by have:=bel9.size;have:=HD.out.2.2;omega) hbx hfz (by rw [HD.out.1];exact HSX.out) HKN.out.1 (hp.later bel9)
    have HW:=Lib.hid (And.intro hw (hp.put))
    have hz9:w1.heap.size < w9.heap.size:=by have:=bel9.size;omega
    have HCL:=Lib.hid hcl
    clear hcl hw hp hbx bel9 HBX HPX hb2 s2 HSL HCH HKN
    go_wp2_with fail
    refine HCL.out.mono ?_
    rintro e w10 ⟨bel10,⟨hc,rfl⟩|⟨z,rfl,hc,hbz⟩⟩
    ·have HX:=Lib.hid (editV_refuse (ok:=spOk isStep s) HW.out.1 hc)
     have h8:=HD.out.2.2
     have HR3:=HR3.keep bel10 (by omega)
     have bw:=b9.trans (bel10.mono (by omega))
     have r0:=cell_keep r0 bel10 (by omega)
     have r1:=cell_keep r1 bel10 (by omega)
     have r2:=cell_keep r2 bel10 (by omega)
     have z10:=bel10.size
     clear hc bel10 HD HCL HW HXT a0 a1 a2 b9 h8
     generalize x.d=xd at*
     generalize x.items.length=nx at*
     go_wp2_with fail
     refine (HCP.out _ (bw)).mono ?_
     rintro e wc ⟨vc,rfl,hoc,belc⟩
     have HB:=Lib.hid (below_step belc (bw))
     have RB:=HR3.later belc
     obtain ⟨Ac,cc,Ac',cc',rfl⟩:=hoc.agg
     have hoc:OwV xd w10.heap.size wc.heap.size wc _:=hoc
     have hz:w10.heap.size≤wc.heap.size:=belc.size
     have HO:=Lib.hid hoc
     clear hoc belc
     obtain ⟨lt,t0,t1,t2,f0,f1,f2⟩:=RB
     go_wp2
     rw [HX.out]
     refine bodyPost_ret (v:= .tuple #[.agg #[.int .i64 xd.n, .slice Ac xd.b.length cc, .slice Ac' xd.items.length cc'], .bool false]) (by simp [results,Tryd.results29,go_sem,t0,t1,t2]) rfl ⟨_,rfl,?_,below_set3 HB.out (by omega) _ _ _⟩
     refine (HO.out.set3 (g:=w.heap.size+1+1) (.inr (by omega)) _ _ _).wide (by omega) (by simp)
    ·have HX:=Lib.hid (editV_some (S:=S) HXT.out HW.out.1 hc)
     have h8:=HD.out.2.2
     have HR3:=HR3.keep bel10 (by omega)
     have bw:=b9.trans (bel10.mono (by omega))
     obtain ⟨q,hq⟩:∃q,q=VM.put z x' t:=⟨_,rfl⟩
     rw [←hq] at hbz
     have hqd:q.d=putV (l.map RM.d) z.d ((l.map RM.d).length - 1:Nat) x.d S:=by
      rw [hq,←HD.out.1]
      exact HW.out.2 z.d z (by rw [List.drop_length,putV_nil])
     have t0:=hbz.cells 0 _ rfl
     have t1:=hbz.cells 1 _ rfl
     have t2:=hbz.cells 2 _ rfl
     obtain ⟨A9,c9,e9, -⟩:=hbz.own.rd.bytes.open_
     obtain ⟨A10,c10,e10, -⟩:=hbz.own.rd.its.open_
     rw [e9] at t1
     rw [e10] at t2
     simp only [Nat.add_zero,Nat.zero_add] at t0 t1 t2
     have HQ:=Lib.hid (And.intro hqd (And.intro hbz (And.intro e9 e10)))
     have HBW:=Lib.hid bw
     have z10:=bel10.size
     clear hc hq hqd hbz e9 e10 bel10 HCL HW HXT a0 a1 a2 b9 bw r0 r1 r2
     generalize hnq:q.n=nq at*
     generalize hlq:q.b.length=lq at*
     generalize hkq:q.items.length=kq at*
     have HNQ:=Lib.hid (And.intro hnq (And.intro hlq hkq))
     clear hnq hlq hkq
     obtain ⟨lt,j0,j1,j2,f0,f1,f2⟩:=HR3
     go_wp2
     rw [HX.out]
     obtain ⟨hqd,hbz,e9,e10⟩:=HQ.out
     obtain ⟨n1,n2,n3⟩:=HNQ.out
     refine bodyPost_ret (v:= .tuple #[.agg #[.int .i64 nq, .slice A9 lq c9, .slice A10 kq c10], .bool true]) (by simp [results,Tryd.results29,go_sem,j0,j1,j2]) rfl ⟨_,rfl,⟨q,hqd,by unfold vmV;rw [e9,e10,n1],?_⟩,below_set3 HBW.out (by omega) _ _ _⟩
     have hlq:∀g∈q.bks,w8.heap.size≤g∧g < w10.heap.size:=hbz.own.lt
     have o1:OwV1 q w8.heap.size w10.heap.size w10:=⟨hbz.own,hbz.nd,hlq⟩
     refine (o1.keep (lo':=w.heap.size+1+1) (hi':=w.heap.size+3) ?_ (.inr (by omega))).wide (by omega) (by simp)
     repeat (refine Out.setCell ?_ (by show _≤w.heap.size+1+1;omega) (by show w.heap.size+1+1 < _;omega) _)
     exact Out.refl _ _ _
end Go.Proofs.YteldgdelmaeokaaDoor
namespace Go.Proofs.YteldgdelmaeokaaDoor
open Go.RowKit
set_option maxHeartbeats 4000000 in
set_option maxRecDepth 100000 in
theorem repClo_any (vD:Value) (l:List RM) (p:VM) (gd gp:Nat) (B:Nat) (w:World) (h:SlD w B vD l) (hB:B≤w.heap.size) (ok:∀r∈l,r.d.ok) (sm:∀r∈l,r.d.small 1048576) (hp:p.rd w B) (hps:p.d.size≤4194304)
  (d0:w.cell? ⟨gd,0,none⟩=some vD) (p0:w.cell? ⟨gp,0,none⟩=some (.int .i64 p.n)) (p1:w.cell? ⟨gp,1,none⟩=some p.vb) (p2:w.cell? ⟨gp,2,none⟩=some p.vi)
  (x':VM) (S:List ByteArray) (lo g:Nat) (t:List Nat) (y:VM) (k g' o':Nat) (W:World) (hb:Below w.heap.size w W) (hlo:w.heap.size≤lo) (hlg:lo≤g) (hg:g < W.heap.size) (hlW:lo≤W.heap.size) (hbx:BoxV W lo g 0 x') (hfz:∀i,i < 3→W.frozen? ⟨g,i,none⟩=false) (hpt:PtI (l.map RM.d) x' S W lo g 0 S.length t y k g' o'):
  Calls Tryd.prog 30 #[.pointer (some ⟨g',o',none⟩), .int .i64 k, .pointer (some ⟨gd,0,none⟩), .pointer (some ⟨gp,0,none⟩)] W (ChE x' t lo g (repC (l.map RM.d) p.d k y.d) W):=by
 have hV:Calls Tryd.prog 31 #[.agg #[vD], .int .i64 k,vmV p] W fun e w'=> e= .returned (.bool (knownD (l.map RM.d) k && validV (l.map RM.d) k p.d))∧Below W.heap.size W w':=
  implValidValue_any vD l _ p w.heap.size W ((h.below (hb.mono hB)).more hB) hb.size ok sm ((hp.bel (hb.mono hB)).more hB) hps
 have hCP:∀W',Below W.heap.size W W'→Calls Tryd.prog 32 #[vmV p] W' (Made (OwV p.d) W'):=fun W' hb'=>
  implCopy_any p w.heap.size W' ((hp.bel ((hb.trans (hb'.mono hb.size)).mono hB)).more hB) (hb.trans (hb'.mono hb.size)).size hps
 obtain ⟨A,c,rfl,hc,hm, -⟩:=h.open_
 obtain ⟨Ap,cp,ep, -⟩:=hp.bytes.open_
 obtain ⟨Aq,cq,eq, -⟩:=hp.its.open_
 have hvm:vmV p= .agg #[.int .i64 p.n, .slice Ap p.b.length cp, .slice Aq p.items.length cq]:=by unfold vmV;rw [ep,eq]
 rw [hvm] at hV hCP
 rw [ep] at p1
 rw [eq] at p2
 have q0:=cell_later hb d0
 have r0:=cell_later hb p0
 have r1:=cell_later hb p1
 have r2:=cell_later hb p2
 have HV:=Lib.hid hV
 have HCP:=Lib.hid hCP
 have HBX:=Lib.hid (And.intro hbx (And.intro hfz hpt))
 clear hV hCP hbx hfz hpt h hp ep eq d0 p0 p1 p2 ok sm hvm hc hm hps hb
 have hkr:∀b,(knownD (l.map RM.d) k && validV (l.map RM.d) k p.d)=b→True:=fun _ _=> trivial
 clear hkr
 generalize hbv:(knownD (l.map RM.d) k && validV (l.map RM.d) k p.d)=bv at*
 have HBV:=Lib.hid hbv
 clear hbv
 go_enter Tryd.func30,Tryd.ntmps30
 go_wp2_with fail
 refine HV.out.mono ?_
 rintro e w1 ⟨rfl,bel⟩
 have q0:=cell_later bel q0
 have r0:=cell_later bel r0
 have r1:=cell_later bel r1
 have r2:=cell_later bel r2
 have HB1:=Lib.hid bel
 clear bel
 cases bv with
 |false=>
  go_wp2
  go_ret
  exact ⟨HB1.out.mono hlW, .inl ⟨repC_no HBV.out _,rfl⟩⟩
 |true=>
  go_wp2_with fail
  refine (HCP.out _ HB1.out).mono ?_
  rintro e w2 ⟨v,rfl,⟨z,hzd,rfl,ho⟩,bel⟩
  have hb2:=HB1.out.trans (bel.mono HB1.out.size)
  obtain ⟨A5,c5,e5, -⟩:=ho.own.rd.bytes.open_
  obtain ⟨A6,c6,e6, -⟩:=ho.own.rd.its.open_
  have hvm:vmV z= .agg #[.int .i64 z.n, .slice A5 z.b.length c5, .slice A6 z.items.length c6]:=by unfold vmV;rw [e5,e6]
  rw [hvm]
  have hz1:=HB1.out.size
  have hlt:g' < W.heap.size:=World.block_lt_of_cell? W _ HBX.out.2.2.c0
  have x0:=cell_later hb2 HBX.out.2.2.c0
  have x1:=cell_later hb2 HBX.out.2.2.c1
  have x2:=cell_later hb2 HBX.out.2.2.c2
  have fz:=PtI.frozen HBX.out.1 HBX.out.2.1 HBX.out.2.2
  have f0:=(hb2.frozen (p:=⟨g',o',none⟩) hlt).trans (fz 0 (by omega))
  have f1:=(hb2.frozen (p:=⟨g',o'+1,none⟩) hlt).trans (fz 1 (by omega))
  have f2:=(hb2.frozen (p:=⟨g',o'+2,none⟩) hlt).trans (fz 2 (by omega))
  obtain ⟨h3,h4⟩:=BoxV.set HBX.out.1 hlg HBX.out.2.2 hb2 (z:=z) (ho.own.base (by omega)) ho.nd (fun q hq=> .inl (by have:=(ho.rng q hq).1;omega)) (fun hq=> by have:=(ho.rng g hq).1;omega)
  simp only [vmCells,e5,e6] at h3
  have HN:=Lib.hid (And.intro h3 (And.intro (below_putCells [.int .i64 z.n, .slice A5 z.b.length c5, .slice A6 z.items.length c6] w2 o' (hb2.mono hlW) h4) hzd))
  clear ho e5 e6 hvm bel hb2 fz h3 h4 hzd hlt hz1
  go_wp2
  go_ret
  exact ⟨HN.out.2.1, .inr ⟨z,rfl,by rw [HN.out.2.2];exact repC_yes HBV.out _,HN.out.1⟩⟩
set_option maxHeartbeats 4000000 in
set_option maxRecDepth 100000 in
theorem implRep_any (vD:Value) (l:List RM) (x p:VM) (s:ByteArray) (B:Nat) (w:World) (h:SlD w B vD l) (hB:B≤w.heap.size) (ok:∀r∈l,r.d.ok) (sm:∀r∈l,r.d.small 1048576) (hx:x.rd w B) (hs:x.d.size≤4194304) (hp:p.rd w B) (hps:p.d.size≤4194304) (hss:s.size≤2097152) (ht:Tab w):
  Calls Tryd.prog 8 #[.agg #[vD],vmV x, .string s,vmV p] w (Made2 (OwV (editV (l.map RM.d) x.d (spOk isStep s) (spL isStep s) (repC (l.map RM.d) p.d)).1) (.bool (editV (l.map RM.d) x.d (spOk isStep s) (spL isStep s) (repC (l.map RM.d) p.d)).2) w):=by
 have hE:∀(gd gp:Nat) W,Below w.heap.size w W→gd < W.heap.size→W.cell? ⟨gd,0,none⟩=some vD→W.cell? ⟨gp,0,none⟩=some (.int .i64 p.n)→W.cell? ⟨gp,1,none⟩=some p.vb→W.cell? ⟨gp,2,none⟩=some p.vi→
   Calls Tryd.prog 29 #[.agg #[vD],vmV x, .string s, .func (.func 30) #[] #[.pointer (some ⟨gd,0,none⟩), .pointer (some ⟨gp,0,none⟩)]] W (Made2 (OwV (editV (l.map RM.d) x.d (spOk isStep s) (spL isStep s) (repC (l.map RM.d) p.d)).1) (.bool (editV (l.map RM.d) x.d (spOk isStep s) (spL isStep s) (repC (l.map RM.d) p.d)).2) W):=fun gd gp W hb _ d0 p0 p1 p2=>
  editRep_any vD l x s B W (h.below (hb.mono hB)) (by have:=hb.size;omega) ok sm (hx.bel (hb.mono hB)) hs hss (tab_on ht hb) _ gd gp
   fun x' S lo g t y k g' o' W' hb' hlo hlg hg hlW hbx hfz _ _ hpt=> repClo_any vD l p gd gp B W (h.below (hb.mono hB)) (by have:=hb.size;omega) ok sm (hp.bel (hb.mono hB)) hps d0 p0 p1 p2 x' S lo g t y k g' o' W' hb' hlo hlg hg hlW hbx hfz hpt
 obtain ⟨A,c,rfl,hc,hm, -⟩:=h.open_
 obtain ⟨Ax,cx,ex, -⟩:=hx.bytes.open_
 obtain ⟨Ay,cy,ey, -⟩:=hx.its.open_
 obtain ⟨Ap,cp,ep, -⟩:=hp.bytes.open_
 obtain ⟨Aq,cq,eq, -⟩:=hp.its.open_
 unfold vmV at hE ⊢
 rw [ex,ey] at hE ⊢
 rw [ep,eq] at hE ⊢
 have HE:=Lib.hid hE
 generalize editV (l.map RM.d) x.d (spOk isStep s) (spL isStep s) (repC (l.map RM.d) p.d)=f at*
 clear hE h hx hp ok sm ht hs hps ex ey ep eq hc hm
 generalize l.length=nl at*
 generalize x.items.length=nx at*
 generalize p.items.length=np at*
 obtain ⟨W0,hW0⟩:∃W0,W0=((((w.alloc (.cells #[.slice A nl c] 26)).alloc (.cells #[.int .i64 x.n, .slice Ax x.b.length cx, .slice Ay nx cy] 29)).alloc (.cells #[.int .i64 p.n, .slice Ap p.b.length cp, .slice Aq np cq] 29)).alloc (.cells #[.int .i64 0, .slice none 0 0, .slice none 0 0] 29)):=⟨_,rfl⟩
 have hb0:Below w.heap.size w W0:=by rw [hW0];exact ((((Below.refl w.heap.size w).alloc (Nat.le_refl _) _).alloc (by simp) _).alloc (by simp;omega) _).alloc (by simp;omega) _
 have hz0:W0.heap.size=w.heap.size+4:=by rw [hW0];simp
 have s0:W0.cell? ⟨w.heap.size,0,none⟩=some (.slice A nl c):=by rw [hW0];simp [go_sem]
 have v0:W0.cell? ⟨w.heap.size+1,0,none⟩=some (.int .i64 x.n):=by rw [hW0];simp [go_sem]
 have v1:W0.cell? ⟨w.heap.size+1,1,none⟩=some (.slice Ax x.b.length cx):=by rw [hW0];simp [go_sem]
 have v2:W0.cell? ⟨w.heap.size+1,2,none⟩=some (.slice Ay nx cy):=by rw [hW0];simp [go_sem]
 have p0:W0.cell? ⟨w.heap.size+1+1,0,none⟩=some (.int .i64 p.n):=by rw [hW0];simp [go_sem]
 have p1:W0.cell? ⟨w.heap.size+1+1,1,none⟩=some (.slice Ap p.b.length cp):=by rw [hW0];simp [go_sem]
 have p2:W0.cell? ⟨w.heap.size+1+1,2,none⟩=some (.slice Aq np cq):=by rw [hW0];simp [go_sem]
 have HR3:B3 W0 (w.heap.size+1+1+1) (.int .i64 0) (.slice none 0 0) (.slice none 0 0):=by
  rw [hW0]
  have:=B3.new (((w.alloc (.cells #[.slice A nl c] 26)).alloc (.cells #[.int .i64 x.n, .slice Ax x.b.length cx, .slice Ay nx cy] 29)).alloc (.cells #[.int .i64 p.n, .slice Ap p.b.length cp, .slice Aq np cq] 29)) (.int .i64 0) (.slice none 0 0) (.slice none 0 0) 29
  simpa using this
 have HE1:=Lib.hid (HE.out w.heap.size (w.heap.size+1+1) W0 hb0 (by omega) s0 p0 p1 p2)
 clear HE
 go_enter Tryd.func8,Tryd.ntmps8
 go_upto_region 1 with fail
 rw [←hW0]
 clear hW0
 go_wp2_with fail
 refine HE1.out.mono ?_
 rintro e w4 ⟨v,rfl,ho,bel⟩
 have HB:=Lib.hid (below_step bel hb0)
 have RB:=HR3.later bel
 obtain ⟨A1,c1,A2,c2,rfl⟩:=ho.agg
 have HO:=Lib.hid ho
 have HZ:=Lib.hid bel.size
 clear ho bel p0 p1 p2 s0 v0 v1 v2 HR3 HE1
 obtain ⟨lt,t0,t1,t2,f0,f1,f2⟩:=RB
 go_wp2
 refine bodyPost_ret (v:= .tuple #[.agg #[.int .i64 f.1.n, .slice A1 f.1.b.length c1, .slice A2 f.1.items.length c2], .bool f.2]) (by simp [results,Tryd.results8,go_sem,t0,t1,t2]) rfl ⟨_,rfl,?_,below_set3 HB.out (by omega) _ _ _⟩
 have hz:=HZ.out
 refine (HO.out.set3 (g:=w.heap.size+1+1+1) (.inr (by omega)) _ _ _).wide (by omega) (by simp)
end Go.Proofs.YteldgdelmaeokaaDoor
