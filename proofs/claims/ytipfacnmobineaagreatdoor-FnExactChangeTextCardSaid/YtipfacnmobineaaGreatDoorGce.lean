/- The walk of impl.FindPart. Conditions: as for spec.FindPart; the value's rows are of its own; the table of powers of ten reads as laid. -/
import Derived.Test.YtipfacnmobineaaGreatDoorGu
import Derived.Test.YtipfacnmobineaaGreatDoorGo
import Derived.WalkSpells
import Derived.WalkLawsBesides
import Derived.Deep.RegionHeld3
set_option linter.unusedSimpArgs false
set_option linter.unusedVariables false
namespace Go.Proofs.YtipfacnmobineaaGreatDoor
open Go.RowKit
set_option maxHeartbeats 4000000 in
set_option maxRecDepth 100000 in
theorem implFind_any (vD:Value) (l:List RM) (x:VM) (lo:Nat) (s:ByteArray) (B:Nat) (w:World) (h:SlD w B vD l) (hB:B≤w.heap.size) (ok:∀r∈l,r.d.ok) (sm:∀r∈l,r.d.small 1048576) (hx:x.own lo w) (hs:x.d.size≤4194304) (hss:s.size≤2097152) (ht:Tab w):
  Calls Tryz.prog 49 #[.agg #[vD],vmV x, .string s] w (FindE (findV (l.map RM.d) x.d (spOk isStep s) (spL isStep s)) w):=by
 have hlm:(l.map RM.d).length=l.length:=List.length_map ..
 have hR:∀W,Below w.heap.size w W→Calls Tryz.prog 68 #[.agg #[vD]] W fun e w'=> e= .returned (.int .i64 ((l.length:Int) - 1))∧Below W.heap.size W w':=fun W hb=> implRoot_any vD l B W (h.below (hb.mono hB))
 have hSP:∀W,Below w.heap.size w W→Calls Tryz.prog 67 #[.string s] W fun e w'=> ∃v,e= .returned (.tuple #[v, .bool (spOk isStep s)])∧OwS (spL isStep s) W.heap.size w'.heap.size w' v∧Below W.heap.size W w':=fun W hb=> implSplitPath_law s W hss
 have hV:∀W,Below w.heap.size w W→Calls Tryz.prog 61 #[.agg #[vD], .int .i64 ((l.length:Int) - 1),vmV x] W fun e w'=> e= .returned (.bool (knownD (l.map RM.d) ((l.length:Int) - 1) && validV (l.map RM.d) ((l.length:Int) - 1) x.d))∧Below W.heap.size W w':=fun W hb=>
  implValidValue_any vD l _ x w.heap.size W ((h.below (hb.mono hB)).more hB) hb.size ok sm (hx.rd.bel hb) hs
 have hsz:∀p∈spL isStep s,p.size≤maxLen:=fun p hp=> by
  unfold spL at hp
  split at hp
  ·have:=splitT_sizes s 47 p (List.mem_of_mem_tail hp)
   unfold maxLen;omega
  ·cases hp
 have hP:knownD (l.map RM.d) ((l.length:Int) - 1)=true→validV (l.map RM.d) ((l.length:Int) - 1) x.d=true→∀W (g:Nat) (vS:Value),Below w.heap.size w W→SlS W W.heap.size vS (spL isStep s)→W.cell? ⟨g,0,none⟩=some (.int .i64 x.n)→W.cell? ⟨g,1,none⟩=some x.vb→W.cell? ⟨g,2,none⟩=some x.vi→
   Calls Tryz.prog 69 #[.agg #[vD], .pointer (some ⟨g,0,none⟩),vS] W fun e w'=> Below W.heap.size W w'∧PartE (l.map RM.d) x (spL isStep s) W lo g 0 e:=fun hk hv W g vS hb hS a0 a1 a2=> by
  have hrg:=knownD_at hk
  have hl:0 < l.length:=by omega
  rw [root_int hl] at hv
  exact partAt_any vD l x lo g 0 vS (spL isStep s) B W (h.below (hb.mono hB)) (by have:=hb.size;omega) ok sm (knownD_valid hk) hl (hx.keep fun b hb'=> hb.block b (hx.lt b hb').2) hs hv a0 (by rw [Nat.zero_add];exact a1) (by rw [Nat.zero_add];exact a2) hS hsz (tab_on ht hb)
 have hCP:∀(y:VM) W W',y.rd W W.heap.size→Below W.heap.size W W'→y.d.size≤4194304→Calls Tryz.prog 37 #[.agg #[.int .i64 y.n,y.vb,y.vi]] W' (Made (OwV y.d) W'):=fun y W W' hy hb hz=>
  implCopy_any y W.heap.size W' (hy.bel hb) hb.size hz
 obtain ⟨A,c,rfl,hc,hm, -⟩:=h.open_
 have HR:=Lib.hid hR
 have HSP:=Lib.hid hSP
 have HV:=Lib.hid hV
 have HP:=Lib.hid hP
 have HCP:=Lib.hid hCP
 have HLM:=Lib.hid hlm
 obtain ⟨Ax,cx,ex, -⟩:=hx.rd.bytes.open_
 obtain ⟨Ay,cy,ey, -⟩:=hx.rd.its.open_
 rw [ex,ey] at hP
 have HP:=Lib.hid hP
 clear hR hSP hV hP hCP hlm ok sm h hs hss ht hsz
 have hvm:vmV x= .agg #[.int .i64 x.n, .slice Ax x.b.length cx, .slice Ay x.items.length cy]:=by unfold vmV;rw [ex,ey]
 rw [hvm] at HV ⊢
 clear hx ex ey hvm
 obtain ⟨W0,hW0⟩:∃W0,W0=(((w.alloc (.cells #[.slice A l.length c] 40)).alloc (.cells #[.int .i64 x.n, .slice Ax x.b.length cx, .slice Ay x.items.length cy] 35)).alloc (.cells #[.int .i64 0, .slice none 0 0, .slice none 0 0] 35)):=⟨_,rfl⟩
 have hb0:Below w.heap.size w W0:=by rw [hW0];exact (((Below.refl w.heap.size w).alloc (Nat.le_refl _) _).alloc (by simp) _).alloc (by simp;omega) _
 have hz0:W0.heap.size=w.heap.size+3:=by rw [hW0];simp
 have y0:W0.cell? ⟨w.heap.size,0,none⟩=some (.slice A l.length c):=by rw [hW0];simp [go_sem]
 have HV3:B3 W0 (w.heap.size+1) (.int .i64 x.n) (.slice Ax x.b.length cx) (.slice Ay x.items.length cy):=by
  rw [hW0]
  refine B3.alloc ?_ _
  have:=B3.new (w.alloc (.cells #[.slice A l.length c] 40)) (.int .i64 x.n) (.slice Ax x.b.length cx) (.slice Ay x.items.length cy) 35
  simpa using this
 have HR3:B3 W0 (w.heap.size+1+1) (.int .i64 0) (.slice none 0 0) (.slice none 0 0):=by
  rw [hW0]
  have:=B3.new ((w.alloc (.cells #[.slice A l.length c] 40)).alloc (.cells #[.int .i64 x.n, .slice Ax x.b.length cx, .slice Ay x.items.length cy] 35)) (.int .i64 0) (.slice none 0 0) (.slice none 0 0) 35
  simpa using this
 go_enter Tryz.func49,Tryz.ntmps49
 go_wp2_with fail
 rw [←hW0]
 clear hW0
 refine (HSP.out _ hb0).mono ?_
 rintro e w2 ⟨vs,rfl,hrd,bel⟩
 have b2:=below_step bel hb0
 have y2:=cell_later bel y0
 have HV3:=HV3.later bel
 have HR3:=HR3.later bel
 have z2:w.heap.size+3≤w2.heap.size:=by have:=bel.size;omega
 have hsl:=hrd.sl
 obtain ⟨As,cs,rfl,hcs,hms,hsc⟩:=hsl.one
 have HSL:=Lib.hid hsl
 clear bel y0 hb0 hrd hsc hsl HSP
 cases hok:spOk isStep s
 ·have HX:=Lib.hid (findV_no (D:=l.map RM.d) (x:=x.d) (ok:=spOk isStep s) (S:=spL isStep s) (by rw [hok];rfl))
  clear HP HR HV HCP HSL hok
  generalize spL isStep s=S at*
  have HB:=Lib.hid b2
  clear b2
  obtain ⟨lt,t0,t1,t2,f0,f1,f2⟩:=HR3
  obtain ⟨lt',p0,p1,p2,g0,g1,g2⟩:=HV3
  go_wp2_with fail
  refine wp_region_held_drew (S:=(fun w9=> w9.cell? ⟨w.heap.size,0,none⟩=some (.slice A l.length c))) (by kernel_rfl) ?_ (fun hHeld=> ?_)
  ·(try dsimp only);exact y2
  refine rgTake 0 (some 18) hHeld _ ?_;try go_frame
  refine rgTake 1 (some 19) hHeld _ ?_;try go_frame
  refine rgTake 2 (some 20) hHeld _ ?_;try go_frame
  refine rgSkip 3 (some 21) hHeld ?_;try go_frame
  refine rgSkip 4 (some 22) hHeld ?_;try go_frame
  refine rgSkip 5 (some 23) hHeld ?_;try go_frame
  refine rgSkip 6 (some 24) hHeld ?_;try go_frame
  refine rgSkip 7 (some 25) hHeld ?_;try go_frame
  refine rgSkip 8 (some 26) hHeld ?_;try go_frame
  refine rgTake 9 (some 27) hHeld _ ?_;try go_frame
  refine wpAnyH_done (by kernel_rfl) ?_ _
  go_wp2
  rw [HX.out]
  refine bodyPost_ret (v:= .tuple #[.agg #[.int .i64 0, .slice none 0 0, .slice none 0 0], .int .i64 (-1), .bool false]) (by simp [results,Tryz.results49,go_sem,t0,t1,t2]) rfl ⟨_,rfl,noVal_own _ _ _,?_⟩
  exact below_set3 HB.out.drew (by omega) _ _ _
 ·obtain ⟨lt',p0,p1,p2,g0,g1,g2⟩:=HV3
  cases hval:(knownD (l.map RM.d) ((l.length:Int) - 1) && validV (l.map RM.d) ((l.length:Int) - 1) x.d)
  ·rw [hval] at HV
   have HX:=Lib.hid (findV_no (D:=l.map RM.d) (x:=x.d) (ok:=spOk isStep s) (S:=spL isStep s) (by rw [hok,HLM.out,hval];rfl))
   clear HP HCP HSL hok hval
   generalize spL isStep s=S at*
   go_wp2_with fail
   refine wp_region_held_drew (S:=(fun w9=> w9.cell? ⟨w.heap.size,0,none⟩=some (.slice A l.length c)∧w9.cell? ⟨w.heap.size+1,0,none⟩=some (.int .i64 x.n)∧w9.cell? ⟨w.heap.size+1,1,none⟩=some (.slice Ax x.b.length cx)∧w9.cell? ⟨w.heap.size+1,2,none⟩=some (.slice Ay x.items.length cy))) (by kernel_rfl) ?_ (fun hHeld=> ?_)
   ·(try dsimp only);exact ⟨y2,p0,p1,p2⟩
   refine rgTake 0 (some 18) hHeld _ ?_;try go_frame
   refine rgTake 1 (some 19) hHeld _ ?_;try go_frame
   refine rgTake 2 (some 20) hHeld _ ?_;try go_frame
   refine rgTake 3 (some 21) hHeld _ ?_;try go_frame
   refine rgTake 4 (some 22) hHeld _ ?_;try go_frame
   refine rgTake 6 (some 24) hHeld _ ?_;try go_frame
   refine rgStep 5 (fun K hK=> ?_)
   go_simp
   refine (HR.out _ b2.drew).mono ?_;rintro e w7 ⟨rfl,bel7⟩;have bq:=below_step bel7 ((Below.refl w2.heap.size w2).drew);have bw:=below_step bel7 b2.drew
   (try go_wp2_with fail)
   refine hK.out _ _ ?_ (fun hHeld=> ?_)
   ·(try dsimp only);exact ⟨cell_later bq y2,cell_later bq p0,cell_later bq p1,cell_later bq p2⟩
   clear hK K
   try go_frame
   refine rgStep 7 (fun K hK=> ?_)
   go_simp
   refine (HV.out _ bw).mono ?_;rintro e w8 ⟨rfl,bel8⟩;have bq:=below_step bel8 bq;have bw:=below_step bel8 bw
   (try go_wp2_with fail)
   refine hK.out _ _ ?_ (fun hHeld=> ?_)
   ·(try dsimp only);exact ⟨cell_later bq y2,cell_later bq p0,cell_later bq p1,cell_later bq p2⟩
   clear hK K
   try go_frame
   refine rgTake 8 (some 26) hHeld _ ?_;try go_frame
   refine rgTake 9 (some 27) hHeld _ ?_;try go_frame
   refine wpAnyH_done (by kernel_rfl) ?_ _
   have HB:=Lib.hid bw
   have HR3:=HR3.later bq
   clear bq bw bel7 bel8 b2 p0 p1 p2 g0 g1 g2 y2
   obtain ⟨lt,t0,t1,t2,f0,f1,f2⟩:=HR3
   go_wp2
   rw [HX.out]
   refine bodyPost_ret (v:= .tuple #[.agg #[.int .i64 0, .slice none 0 0, .slice none 0 0], .int .i64 (-1), .bool false]) (by simp [results,Tryz.results49,go_sem,t0,t1,t2]) rfl ⟨_,rfl,noVal_own _ _ _,?_⟩
   exact below_set3 HB.out (by omega) _ _ _
  ·rw [hval] at HV
   have hkn:knownD (l.map RM.d) ((l.length:Int) - 1)=true∧validV (l.map RM.d) ((l.length:Int) - 1) x.d=true:=by simpa using hval
   have HPP:=Lib.hid (HP.out hkn.1 hkn.2)
   have HXT:=Lib.hid (show (spOk isStep s && (knownD (l.map RM.d) (((l.map RM.d).length:Int) - 1) && validV (l.map RM.d) (((l.map RM.d).length:Int) - 1) x.d))=true by rw [hok,HLM.out,hval];rfl)
   clear HP hok hval hkn
   generalize spL isStep s=S at*
   go_wp2_with fail
   refine wp_region_held_drew (S:=(fun w9=> w9.cell? ⟨w.heap.size,0,none⟩=some (.slice A l.length c)∧w9.cell? ⟨w.heap.size+1,0,none⟩=some (.int .i64 x.n)∧w9.cell? ⟨w.heap.size+1,1,none⟩=some (.slice Ax x.b.length cx)∧w9.cell? ⟨w.heap.size+1,2,none⟩=some (.slice Ay x.items.length cy))) (by kernel_rfl) ?_ (fun hHeld=> ?_)
   ·(try dsimp only);exact ⟨y2,p0,p1,p2⟩
   refine rgTake 0 (some 18) hHeld _ ?_;try go_frame
   refine rgTake 1 (some 19) hHeld _ ?_;try go_frame
   refine rgTake 2 (some 20) hHeld _ ?_;try go_frame
   refine rgTake 3 (some 21) hHeld _ ?_;try go_frame
   refine rgTake 4 (some 22) hHeld _ ?_;try go_frame
   refine rgTake 6 (some 24) hHeld _ ?_;try go_frame
   refine rgStep 5 (fun K hK=> ?_)
   go_simp
   refine (HR.out _ b2.drew).mono ?_;rintro e w7 ⟨rfl,bel7⟩;have bq:=below_step bel7 ((Below.refl w2.heap.size w2).drew);have bw:=below_step bel7 b2.drew
   (try go_wp2_with fail)
   refine hK.out _ _ ?_ (fun hHeld=> ?_)
   ·(try dsimp only);exact ⟨cell_later bq y2,cell_later bq p0,cell_later bq p1,cell_later bq p2⟩
   clear hK K
   try go_frame
   refine rgStep 7 (fun K hK=> ?_)
   go_simp
   refine (HV.out _ bw).mono ?_;rintro e w8 ⟨rfl,bel8⟩;have bq:=below_step bel8 bq;have bw:=below_step bel8 bw
   (try go_wp2_with fail)
   refine hK.out _ _ ?_ (fun hHeld=> ?_)
   ·(try dsimp only);exact ⟨cell_later bq y2,cell_later bq p0,cell_later bq p1,cell_later bq p2⟩
   clear hK K
   try go_frame
   refine rgTake 8 (some 26) hHeld _ ?_;try go_frame
   refine rgTake 9 (some 27) hHeld _ ?_;try go_frame
   refine wpAnyH_done (by kernel_rfl) ?_ _
   have HB:=Lib.hid (And.intro bw bq)
   have y3:=cell_later bq y2
   have p0':=cell_later bq p0
   have p1':=cell_later bq p1
   have p2':=cell_later bq p2
   have HR3:=HR3.later bq
   clear bel7 bel8 bq bw y2 p0 p1 p2 g0 g1 g2
   go_wp2_with fail
   refine (HPP.out _ _ _ HB.out.1 ((Sl.below HSL.out HB.out.2).more HB.out.2.size) p0' p1' p2').mono ?_
   rintro e w9 ⟨bel9,⟨hn,rfl⟩|⟨t,y,k,g',o',hp,rfl⟩⟩
   ·have HX:=Lib.hid (findV_none (ok:=spOk isStep s) hn)
    have HR3:=HR3.later bel9
    have HB:=Lib.hid (below_step bel9 HB.out.1)
    clear bel9 hn p0' p1' p2' y3
    obtain ⟨lt,t0,t1,t2,f0,f1,f2⟩:=HR3
    go_wp2
    rw [HX.out]
    refine bodyPost_ret (v:= .tuple #[.agg #[.int .i64 0, .slice none 0 0, .slice none 0 0], .int .i64 (-1), .bool false]) (by simp [results,Tryz.results49,go_sem,t0,t1,t2]) rfl ⟨_,rfl,noVal_own _ _ _,?_⟩
    exact below_set3 HB.out (by omega) _ _ _
   ·have HX:=Lib.hid (findV_some (S:=S) HXT.out (hp.rdi.done (Nat.le_refl _)))
    have HR3:=HR3.later bel9
    have d0:=cell_later bel9 hp.c0
    have d1:=cell_later bel9 hp.c1
    have d2:=cell_later bel9 hp.c2
    have hb9:=below_step bel9 HB.out.1
    have HC1:=Lib.hid (HCP.out y w8 w9 hp.rdi.rd bel9 hp.rdi.sz)
    clear p0' p1' p2' y3 hp bel9
    go_wp2_with fail
    refine HC1.out.mono ?_
    rintro e w4 ⟨v,rfl,⟨x',hd,rfl,ho⟩,bel⟩
    have HB:=Lib.hid (And.intro (below_step bel hb9) hb9.size)
    obtain ⟨A5,c5,e5, -⟩:=ho.own.rd.bytes.open_
    obtain ⟨A6,c6,e6, -⟩:=ho.own.rd.its.open_
    have hv':vmV x'= .agg #[.int .i64 x'.n, .slice A5 x'.b.length c5, .slice A6 x'.items.length c6]:=by unfold vmV;rw [e5,e6]
    rw [hv']
    have HZ:=Lib.hid (show w.heap.size+3≤w9.heap.size from by have:=HR3.lt;omega)
    have HH:=Lib.hid (And.intro hd (And.intro ho hv'))
    have RB:=HR3.later bel
    clear hd ho hv' e5 e6 bel hb9 d0 d1 d2
    obtain ⟨lt,t0,t1,t2,f0,f1,f2⟩:=RB
    go_wp2
    rw [HX.out]
    obtain ⟨hd,ho,hv'⟩:=HH.out
    refine bodyPost_ret (v:= .tuple #[.agg #[.int .i64 x'.n, .slice A5 x'.b.length c5, .slice A6 x'.items.length c6], .int .i64 k, .bool true]) (by simp [results,Tryz.results49,go_sem,t0,t1,t2]) rfl ⟨_,rfl,⟨x',hd,hv'.symm,?_⟩,?_⟩
    ·have h1:=HZ.out
     have h2:=HB.out.1.size
     refine (ho.keep (lo':=w.heap.size+1+1) (hi':=w.heap.size+3) ?_ (.inr (by omega))).wide (by omega) (by simp)
     repeat (refine Out.setCell ?_ (by omega) (by omega) _)
     exact Out.refl _ _ _
    ·exact below_set3 HB.out.1 (by omega) _ _ _
end Go.Proofs.YtipfacnmobineaaGreatDoor
