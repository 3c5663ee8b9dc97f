/- Out of ValFi, PartP, ItR, DrVal: the walks and plain laws that the claim needs. No condition but those that each theorem names. -/
import Derived.Test.YteldgdelmaeokaaDoorGu
import Derived.Test.YteldgdelmaeokaaDoorGo
import Derived.WalkSpells
import Derived.WalkLawsBesides
import Derived.Deep.RegionHeld3
import Derived.Test.YteldgdelmaeokaaDoorGda
import Derived.Test.YteldgdelmaeokaaDoorGf
import Derived.Test.YteldgdelmaeokaaDoorGdc
import Derived.Test.YteldgdelmaeokaaDoorGde
import Derived.IntWalk
import Derived.Deep.DeepCutAuto
set_option linter.unusedSimpArgs false
set_option linter.unusedVariables false
namespace Go.Proofs.YteldgdelmaeokaaDoor
open Go.RowKit
set_option maxHeartbeats 4000000 in
set_option maxRecDepth 100000 in
theorem implFind_any (vD:Value) (l:List RM) (x:VM) (lo:Nat) (s:ByteArray) (B:Nat) (w:World) (h:SlD w B vD l) (hB:B≤w.heap.size) (ok:∀r∈l,r.d.ok) (sm:∀r∈l,r.d.small 1048576) (hx:x.own lo w) (hs:x.d.size≤4194304) (hss:s.size≤2097152) (ht:Tab w):
  Calls Tryd.prog 17 #[.agg #[vD],vmV x, .string s] w (FindE (findV (l.map RM.d) x.d (spOk isStep s) (spL isStep s)) w):=by
 have hlm:(l.map RM.d).length=l.length:=List.length_map ..
 have hR:∀W,Below w.heap.size w W→Calls Tryd.prog 51 #[.agg #[vD]] W fun e w'=> e= .returned (.int .i64 ((l.length:Int) - 1))∧Below W.heap.size W w':=fun W hb=> implRoot_any vD l B W (h.below (hb.mono hB))
 have hSP:∀W,Below w.heap.size w W→Calls Tryd.prog 50 #[.string s] W fun e w'=> ∃v,e= .returned (.tuple #[v, .bool (spOk isStep s)])∧OwS (spL isStep s) W.heap.size w'.heap.size w' v∧Below W.heap.size W w':=fun W hb=> implSplitPath_law s W hss
 have hV:∀W,Below w.heap.size w W→Calls Tryd.prog 31 #[.agg #[vD], .int .i64 ((l.length:Int) - 1),vmV x] W fun e w'=> e= .returned (.bool (knownD (l.map RM.d) ((l.length:Int) - 1) && validV (l.map RM.d) ((l.length:Int) - 1) x.d))∧Below W.heap.size W w':=fun W hb=>
  implValidValue_any vD l _ x w.heap.size W ((h.below (hb.mono hB)).more hB) hb.size ok sm (hx.rd.bel hb) hs
 have hsz:∀p∈spL isStep s,p.size≤maxLen:=fun p hp=> by
  unfold spL at hp
  split at hp
  ·have:=splitT_sizes s 47 p (List.mem_of_mem_tail hp)
   unfold maxLen;omega
  ·cases hp
 have hP:knownD (l.map RM.d) ((l.length:Int) - 1)=true→validV (l.map RM.d) ((l.length:Int) - 1) x.d=true→∀W (g:Nat) (vS:Value),Below w.heap.size w W→SlS W W.heap.size vS (spL isStep s)→W.cell? ⟨g,0,none⟩=some (.int .i64 x.n)→W.cell? ⟨g,1,none⟩=some x.vb→W.cell? ⟨g,2,none⟩=some x.vi→
   Calls Tryd.prog 52 #[.agg #[vD], .pointer (some ⟨g,0,none⟩),vS] W fun e w'=> Below W.heap.size W w'∧PartE (l.map RM.d) x (spL isStep s) W lo g 0 e:=fun hk hv W g vS hb hS a0 a1 a2=> by
  have hrg:=knownD_at hk
  have hl:0 < l.length:=by omega
  rw [root_int hl] at hv
  exact partAt_any vD l x lo g 0 vS (spL isStep s) B W (h.below (hb.mono hB)) (by have:=hb.size;omega) ok sm (knownD_valid hk) hl (hx.keep fun b hb'=> hb.block b (hx.lt b hb').2) hs hv a0 (by rw [Nat.zero_add];exact a1) (by rw [Nat.zero_add];exact a2) hS hsz (tab_on ht hb)
 have hCP:∀(y:VM) W W',y.rd W W.heap.size→Below W.heap.size W W'→y.d.size≤4194304→Calls Tryd.prog 32 #[.agg #[.int .i64 y.n,y.vb,y.vi]] W' (Made (OwV y.d) W'):=fun y W W' hy hb hz=>
  implCopy_any y W.heap.size W' (hy.bel hb) hb.size hz
 obtain ⟨A,c,rfl,hc,hm, -⟩:=h.open_
 have HR:=Lib.hid hR
 have HSP:=Lib.hid hSP
 have HV:=Lib.hid hV
 have HP:=Lib.hid hP
 have HCP:=Lib.hid hCP
 have HLM:=Lib.hid hlm
 obtain ⟨Ax,cx,ex, -⟩:=hx.rd.bytes.open_
 obtain ⟨Ay,cy,ey, -⟩:=hx.rd.its.open_
 rw [ex,ey] at hP
 have HP:=Lib.hid hP
 clear hR hSP hV hP hCP hlm ok sm h hs hss ht hsz
 have hvm:vmV x= .agg #[.int .i64 x.n, .slice Ax x.b.length cx, .slice Ay x.items.length cy]:=by unfold vmV;rw [ex,ey]
 rw [hvm] at HV ⊢
 clear hx ex ey hvm
 obtain ⟨W0,hW0⟩:∃W0,W0=(((w.alloc (.cells #[.slice A l.length c] 26)).alloc (.cells #[.int .i64 x.n, .slice Ax x.b.length cx, .slice Ay x.items.length cy] 29)).alloc (.cells #[.int .i64 0, .slice none 0 0, .slice none 0 0] 29)):=⟨_,rfl⟩
 have hb0:Below w.heap.size w W0:=by rw [hW0];exact (((Below.refl w.heap.size w).alloc (Nat.le_refl _) _).alloc (by simp) _).alloc (by simp;omega) _
 have hz0:W0.heap.size=w.heap.size+3:=by rw [hW0];simp
 have y0:W0.cell? ⟨w.heap.size,0,none⟩=some (.slice A l.length c):=by rw [hW0];simp [go_sem]
 have HV3:B3 W0 (w.heap.size+1) (.int .i64 x.n) (.slice Ax x.b.length cx) (.slice Ay x.items.length cy):=by
  rw [hW0]
  refine B3.alloc ?_ _
  have:=B3.new (w.alloc (.cells #[.slice A l.length c] 26)) (.int .i64 x.n) (.slice Ax x.b.length cx) (.slice Ay x.items.length cy) 29
  simpa using this
 have HR3:B3 W0 (w.heap.size+1+1) (.int .i64 0) (.slice none 0 0) (.slice none 0 0):=by
  rw [hW0]
  have:=B3.new ((w.alloc (.cells #[.slice A l.length c] 26)).alloc (.cells #[.int .i64 x.n, .slice Ax x.b.length cx, .slice Ay x.items.length cy] 29)) (.int .i64 0) (.slice none 0 0) (.slice none 0 0) 29
  simpa using this
 go_enter Tryd.func17,Tryd.ntmps17
 go_wp2_with fail
 rw [←hW0]
 clear hW0
 refine (HSP.out _ hb0).mono ?_
 rintro e w2 ⟨vs,rfl,hrd,bel⟩
 have b2:=below_step bel hb0
 have y2:=cell_later bel y0
 have HV3:=HV3.later bel
 have HR3:=HR3.later bel
 have z2:w.heap.size+3≤w2.heap.size:=by have:=bel.size;omega
 have hsl:=hrd.sl
 obtain ⟨As,cs,rfl,hcs,hms,hsc⟩:=hsl.one
 have HSL:=Lib.hid hsl
 clear bel y0 hb0 hrd hsc hsl HSP
 cases hok:spOk isStep s
 ·have HX:=Lib.hid (findV_no (D:=l.map RM.d) (x:=x.d) (ok:=spOk isStep s) (S:=spL isStep s) (by rw [hok];rfl))
  clear HP HR HV HCP HSL hok
  generalize spL isStep s=S at*
  have HB:=Lib.hid b2
  clear b2
  obtain ⟨lt,t0,t1,t2,f0,f1,f2⟩:=HR3
  obtain ⟨lt',p0,p1,p2,g0,g1,g2⟩:=HV3
  go_wp2_with fail
  refine wp_region_held_drew (S:=(fun w9=> w9.cell? ⟨w.heap.size,0,none⟩=some (.slice A l.length c))) (by kernel_rfl) ?_ (fun hHeld=> ?_)
  ·(try dsimp only);exact y2
  refine rgTake 0 (some 18) hHeld _ ?_;try go_frame
  refine rgTake 1 (some 19) hHeld _ ?_;try go_frame
  refine rgTake 2 (some 20) hHeld _ ?_;try go_frame
  refine rgSkip 3 (some 21) hHeld ?_;try go_frame
  refine rgSkip 4 (some 22) hHeld ?_;try go_frame
  refine rgSkip 5 (some 23) hHeld ?_;try go_frame
  refine rgSkip 6 (some 24) hHeld ?_;try go_frame
  refine rgSkip 7 (some 25) hHeld ?_;try go_frame
  refine rgSkip 8 (some 26) hHeld ?_;try go_frame
  refine rgTake 9 (some 27) hHeld _ ?_;try go_frame
  refine wpAnyH_done (by kernel_rfl) ?_ _
  go_wp2
  rw [HX.out]
  refine bodyPost_ret (v:= .tuple #[.agg #[.int .i64 0, .slice none 0 0, .slice none 0 0], .int .i64 (-1), .bool false]) (by simp [results,Tryd.results17,go_sem,t0,t1,t2]) rfl ⟨_,rfl,noVal_own _ _ _,?_⟩
  exact below_set3 HB.out.drew (by omega) _ _ _
 ·obtain ⟨lt',p0,p1,p2,g0,g1,g2⟩:=HV3
  cases hval:(knownD (l.map RM.d) ((l.length:Int) - 1) && validV (l.map RM.d) ((l.length:Int) - 1) x.d)
  ·rw [hval] at HV
   have HX:=Lib.hid (findV_no (D:=l.map RM.d) (x:=x.d) (ok:=spOk isStep s) (S:=spL isStep s) (by rw [hok,HLM.out,hval];rfl))
   clear HP HCP HSL hok hval
   generalize spL isStep s=S at*
   go_wp2_with fail
   refine wp_region_held_drew (S:=(fun w9=> w9.cell? ⟨w.heap.size,0,none⟩=some (.slice A l.length c)∧w9.cell? ⟨w.heap.size+1,0,none⟩=some (.int .i64 x.n)∧w9.cell? ⟨w.heap.size+1,1,none⟩=some (.slice Ax x.b.length cx)∧w9.cell? ⟨w.heap.size+1,2,none⟩=some (.slice Ay x.items.length cy))) (by kernel_rfl) ?_ (fun hHeld=> ?_)
   ·(try dsimp only);exact ⟨y2,p0,p1,p2⟩
   refine rgTake 0 (some 18) hHeld _ ?_;try go_frame
   refine rgTake 1 (some 19) hHeld _ ?_;try go_frame
   refine rgTake 2 (some 20) hHeld _ ?_;try go_frame
   refine rgTake 3 (some 21) hHeld _ ?_;try go_frame
   refine rgTake 4 (some 22) hHeld _ ?_;try go_frame
   refine rgTake 6 (some 24) hHeld _ ?_;try go_frame
   refine rgStep 5 (fun K hK=> ?_)
   go_simp
   refine (HR.out _ b2.drew).mono ?_;rintro e w7 ⟨rfl,bel7⟩;have bq:=below_step bel7 ((Below.refl w2.heap.size w2).drew);have bw:=below_step bel7 b2.drew
   (try go_wp2_with fail)
   refine hK.out _ _ ?_ (fun hHeld=> ?_)
   ·(try dsimp only);exact ⟨cell_later bq y2,cell_later bq p0,cell_later bq p1,cell_later bq p2⟩
   clear hK K
   try go_frame
   refine rgStep 7 (fun K hK=> ?_)
   go_simp
   refine (HV.out _ bw).mono ?_;rintro e w8 ⟨rfl,bel8⟩;have bq:=below_step bel8 bq;have bw:=below_step bel8 bw
   (try go_wp2_with fail)
   refine hK.out _ _ ?_ (fun hHeld=> ?_)
   ·(try dsimp only);exact ⟨cell_later bq y2,cell_later bq p0,cell_later bq p1,cell_later bq p2⟩
   clear hK K
   try go_frame
   refine rgTake 8 (some 26) hHeld _ ?_;try go_frame
   refine rgTake 9 (some 27) hHeld _ ?_;try go_frame
   refine wpAnyH_done (by kernel_rfl) ?_ _
   have HB:=Lib.hid bw
   have HR3:=HR3.later bq
   clear bq bw bel7 bel8 b2 p0 p1 p2 g0 g1 g2 y2
   obtain ⟨lt,t0,t1,t2,f0,f1,f2⟩:=HR3
   go_wp2
   rw [HX.out]
   refine bodyPost_ret (v:= .tuple #[.agg #[.int .i64 0, .slice none 0 0, .slice none 0 0], .int .i64 (-1), .bool false]) (by simp [results,Tryd.results17,go_sem,t0,t1,t2]) rfl ⟨_,rfl,noVal_own _ _ _,?_⟩
   exact below_set3 HB.out (by omega) _ _ _
  ·rw [hval] at HV
   have hkn:knownD (l.map RM.d) ((l.length:Int) - 1)=true∧validV (l.map RM.d) ((l.length:Int) - 1) x.d=true:=by simpa using hval
   have HPP:=Lib.hid (HP.out hkn.1 hkn.2)
   have HXT:=Lib.hid (show (spOk isStep s && (knownD (l.map RM.d) (((l.map RM.d).length:Int) - 1) && validV (l.map RM.d) (((l.map RM.d).length:Int) - 1) x.d))=true by rw [hok,HLM.out,hval];rfl)
   clear HP hok hval hkn
   generalize spL isStep s=S at*
   go_wp2_with fail
   refine wp_region_held_drew (S:=(fun w9=> w9.cell? ⟨w.heap.size,0,none⟩=some (.slice A l.length c)∧w9.cell? ⟨w.heap.size+1,0,none⟩=some (.int .i64 x.n)∧w9.cell? ⟨w.heap.size+1,1,none⟩=some (.slice Ax x.b.length cx)∧w9.cell? ⟨w.heap.size+1,2,none⟩=some (.slice Ay x.items.length cy))) (by kernel_rfl) ?_ (fun hHeld=> ?_)
   ·(try dsimp only);exact ⟨y2,p0,p1,p2⟩
   refine rgTake 0 (some 18) hHeld _ ?_;try go_frame
   refine rgTake 1 (some 19) hHeld _ ?_;try go_frame
   refine rgTake 2 (some 20) hHeld _ ?_;try go_frame
   refine rgTake 3 (some 21) hHeld _ ?_;try go_frame
   refine rgTake 4 (some 22) hHeld _ ?_;try go_frame
   refine rgTake 6 (some 24) hHeld _ ?_;try go_frame
   refine rgStep 5 (fun K hK=> ?_)
   go_simp
   refine (HR.out _ b2.drew).mono ?_;rintro e w7 ⟨rfl,bel7⟩;have bq:=below_step bel7 ((Below.refl w2.heap.size w2).drew);have bw:=below_step bel7 b2.drew
   (try go_wp2_with fail)
   refine hK.out _ _ ?_ (fun hHeld=> ?_)
   ·(try dsimp only);exact ⟨cell_later bq y2,cell_later bq p0,cell_later bq p1,cell_later bq p2⟩
   clear hK K
   try go_frame
   refine rgStep 7 (fun K hK=> ?_)
   go_simp
   refine (HV.out _ bw).mono ?_;rintro e w8 ⟨rfl,bel8⟩;have bq:=below_step bel8 bq;have bw:=below_step bel8 bw
   (try go_wp2_with fail)
   refine hK.out _ _ ?_ (fun hHeld=> ?_)
   ·(try dsimp only);exact ⟨cell_later bq y2,cell_later bq p0,cell_later bq p1,cell_later bq p2⟩
   clear hK K
   try go_frame
   refine rgTake 8 (some 26) hHeld _ ?_;try go_frame
   refine rgTake 9 (some 27) hHeld _ ?_;try go_frame
   refine wpAnyH_done (by kernel_rfl) ?_ _
   have HB:=Lib.hid (And.intro bw bq)
   have y3:=cell_later bq y2
   have p0':=cell_later bq p0
   have p1':=cell_later bq p1
   have p2':=cell_later bq p2
   have HR3:=HR3.later bq
   clear bel7 bel8 bq bw y2 p0 p1 p2 g0 g1 g2
   go_wp2_with fail
   refine (HPP.out _ _ _ HB.out.1 ((Sl.below HSL.out HB.out.2).more HB.out.2.size) p0' p1' p2').mono ?_
   rintro e w9 ⟨bel9,⟨hn,rfl⟩|⟨t,y,k,g',o',hp,rfl⟩⟩
   ·have HX:=Lib.hid (findV_none (ok:=spOk isStep s) hn)
    have HR3:=HR3.later bel9
    have HB:=Lib.hid (below_step bel9 HB.out.1)
    clear bel9 hn p0' p1' p2' y3
    obtain ⟨lt,t0,t1,t2,f0,f1,f2⟩:=HR3
    go_wp2
    rw [HX.out]
    refine bodyPost_ret (v:= .tuple #[.agg #[.int .i64 0, .slice none 0 0, .slice none 0 0], .int .i64 (-1), .bool false]) (by simp [results,Tryd.results17,go_sem,t0,t1,t2]) rfl ⟨_,rfl,noVal_own _ _ _,?_⟩
    exact below_set3 HB.out (by omega) _ _ _
   ·have HX:=Lib.hid (findV_some (S:=S) HXT.out (hp.rdi.done (Nat.le_refl _)))
    have HR3:=HR3.later bel9
    have d0:=cell_later bel9 hp.c0
    have d1:=cell_later bel9 hp.c1
    have d2:=cell_later bel9 hp.c2
    have hb9:=below_step bel9 HB.out.1
    have HC1:=Lib.hid (HCP.out y w8 w9 hp.rdi.rd bel9 hp.rdi.sz)
    clear p0' p1' p2' y3 hp bel9
    go_wp2_with fail
    refine HC1.out.mono ?_
    rintro e w4 ⟨v,rfl,⟨x',hd,rfl,ho⟩,bel⟩
    have HB:=Lib.hid (And.intro (below_step bel hb9) hb9.size)
    obtain ⟨A5,c5,e5, -⟩:=ho.own.rd.bytes.open_
    obtain ⟨A6,c6,e6, -⟩:=ho.own.rd.its.open_
    have hv':vmV x'= .agg #[.int .i64 x'.n, .slice A5 x'.b.length c5, .slice A6 x'.items.length c6]:=by unfold vmV;rw [e5,e6]
    rw [hv']
    have HZ:=Lib.hid (show w.heap.size+3≤w9.heap.size from by have:=HR3.lt;omega)
    have HH:=Lib.hid (And.intro hd (And.intro ho hv'))
    have RB:=HR3.later bel
    clear hd ho hv' e5 e6 bel hb9 d0 d1 d2
    obtain ⟨lt,t0,t1,t2,f0,f1,f2⟩:=RB
    go_wp2
    rw [HX.out]
    obtain ⟨hd,ho,hv'⟩:=HH.out
    refine bodyPost_ret (v:= .tuple #[.agg #[.int .i64 x'.n, .slice A5 x'.b.length c5, .slice A6 x'.items.length c6], .int .i64 k, .bool true]) (by simp [results,Tryd.results17,go_sem,t0,t1,t2]) rfl ⟨_,rfl,⟨x',hd,hv'.symm,?_⟩,?_⟩
    ·have h1:=HZ.out
     have h2:=HB.out.1.size
     refine (ho.keep (lo':=w.heap.size+1+1) (hi':=w.heap.size+3) ?_ (.inr (by omega))).wide (by omega) (by simp)
     repeat (refine Out.setCell ?_ (by omega) (by omega) _)
     exact Out.refl _ _ _
    ·exact below_set3 HB.out.1 (by omega) _ _ _
end Go.Proofs.YteldgdelmaeokaaDoor
namespace Go.Proofs.YteldgdelmaeokaaDoor
open Go.RowKit
theorem step_fmt (n:Nat) (h:n≤1048576):isStep (str (fmtI n))=true∧(∀c∈(str (fmtI n)).data.toList,c≠47)∧1≤(str (fmtI n)).size∧(str (fmtI n)).size≤13:=by
 obtain ⟨hn,hv⟩:=isNum_fmtI n (by omega)
 have hn':=hn
 unfold isNum at hn'
 simp only [Bool.and_eq_true,decide_eq_true_eq] at hn'
 obtain ⟨h1,h2,h3, -⟩:=hn'
 have hs:(str (fmtI n)).size=(fmtI n).length:=by rw [Lib.size_eq,str_data]
 refine ⟨?_,?_,by omega,by omega⟩
 ·unfold isStep
  rw [str_data,hn]
  simp
 ·rw [str_data]
  intro c hc e
  subst e
  have:=List.all_eq_true.1 h3 _ hc
  exact absurd this (by decide)
theorem name_chars {s:ByteArray} (h:isName s=true):(∀c∈s.data.toList,c≠47)∧1≤s.size∧s.size≤12:=by
 unfold isName at h
 simp only [Bool.and_eq_true,decide_eq_true_eq] at h
 refine ⟨fun c hc e=> ?_,h.2.1,h.2.2⟩
 obtain ⟨k,hk,e2⟩:=List.getElem_of_mem hc
 subst e
 have hs:s.size=s.data.toList.length:=Lib.size_eq s
 have hb:nameAt s k=false:=by
  unfold nameAt
  rw [List.getElem?_eq_getElem hk,e2]
  show (isLow 47||(isDig 47 && _))=false
  rw [show isLow 47=false from by decide,show isDig 47=false from by decide]
  rfl
 rw [nameTo_no s k s.size (by omega) hb] at h
 exact Bool.false_ne_true h.1
structure StepOk (r:RuleD) (m i:Nat):Prop where
 step:isStep (stepR r i)=true
 fol:folR r m (stepR r i)=i
 no:∀c∈(stepR r i).data.toList,c≠47
 pos:1≤(stepR r i).size
 le:(stepR r i).size≤13
theorem step_ok {D D':List RuleD} {r:RuleD} {n:Int} {nb m i:Nat} (hr:DrR D r) (hm:m≤1048576) (ho:ownB D' r n nb m=true) (hi:i < m):StepOk r m i:=by
 have hg:=hr.good
 have hk:=hr.kind
 unfold ownB at ho
 by_cases h1:r.kind=1∨r.kind=2∨r.kind=3∨r.kind=4∨r.kind=10
 ·exfalso
  rcases h1 with e|e|e|e|e <;> rw [e] at ho <;> simp at ho <;> omega
 by_cases h5:r.kind=5
 ·obtain ⟨a,b,c,d⟩:=step_fmt i (by omega)
  obtain ⟨hn,hv⟩:=isNum_fmtI i (by omega)
  have e:=stepR_5 (r:=r) (i:=i) h5
  refine ⟨by rw [e];exact a,?_,by rw [e];exact b,by rw [e];exact c,by rw [e];exact d⟩
  rw [e]
  have:=fol_5_at (s:=str (fmtI i)) h5 hm (by rw [str_data];exact hn) (by rw [str_data,hv];exact hi)
  rw [str_data,hv] at this
  exact this
 by_cases h6:r.kind=6
 ·unfold kindR plainR at hg
  rw [if_neg (by omega),if_neg (by omega),if_neg (by omega),if_neg (by omega),if_neg (by omega),if_pos h6] at hg
  rw [if_neg (by omega),if_neg (by omega),if_neg (by omega),if_neg (by omega),if_neg (by omega),if_neg (by omega),if_pos h6] at ho
  simp only [Bool.and_eq_true,decide_eq_true_eq] at ho
  simp at hg
  have hml:m=r.names.length:=by omega
  have hil:i < r.names.length:=by omega
  have e:stepR r i=r.names[i]:=stepR_6 h6 hil
  have hok:allTo (nmAt r.names) r.names.length=true:=by
   have:=hg.2
   unfold okNames at this
   rw [Bool.and_eq_true] at this
   exact this.1
  have hnm:∀j (hj:j < r.names.length),isName r.names[j]=true∧hasT (r.names.take j) r.names[j]=false:=fun j hj=> by
   have:=(allTo_iff _ _).1 hok j hj
   rw [nmAt_eq _ _ hj,Bool.and_eq_true,Bool.not_eq_true'] at this
   exact this
  obtain ⟨c1,c2,c3⟩:=name_chars (hnm i hil).1
  refine ⟨by rw [e];unfold isStep;rw [(hnm i hil).1];rfl,?_,by rw [e];exact c1,by rw [e];exact c2,by rw [e];omega⟩
  rw [e]
  refine fol_6_at h6 hil hi rfl ?_ fun k hk e2=> ?_
  ·intro e0
   rw [Lib.size_eq,e0] at c2
   simp at c2
  ·have hh:=(hnm i hil).2
   unfold hasT at hh
   rw [List.any_eq_false] at hh
   have hmem:r.names[k]∈r.names.take i:=by
    have:k < (r.names.take i).length:=by rw [List.length_take];omega
    have h2:=List.getElem_mem this
    rwa [List.getElem_take] at h2
   exact hh _ hmem (eqT_true e2)
 have h789:r.kind=7∨r.kind=8∨r.kind=9:=by omega
 have hi0:i=0:=by
  rcases h789 with e|e|e <;> rw [e] at ho <;> simp at ho <;> omega
 subst hi0
 have key:∃c:UInt8,(c=42∨c=63∨c=43)∧stepR r ((0:Nat):Int)=⟨#[c]⟩:=by
  unfold stepR
  rcases h789 with e|e|e
  ·exact ⟨42, .inl rfl,by rw [e];rfl⟩
  ·exact ⟨63, .inr (.inl rfl),by rw [e];rfl⟩
  ·exact ⟨43, .inr (.inr rfl),by rw [e];rfl⟩
 obtain ⟨c,hc,e⟩:=key
 have hne:(stepR r ((0:Nat):Int)).data.toList≠ []:=by rw [e];simp
 refine ⟨?_,fol_0_at hi rfl hne,?_,?_,?_⟩
 ·rw [e]
  unfold isStep
  rw [Lib.toList_data]
  rcases hc with rfl|rfl|rfl <;> simp
 ·rw [e]
  intro x hx
  have:x=c:=by simpa using hx
  rw [this]
  rcases hc with rfl|rfl|rfl <;> decide
 ·rw [e];exact Nat.le_refl _
 ·rw [e];show 1≤13;omega
theorem fol_zz {D:List RuleD} {r:RuleD} {m:Nat} {s:ByteArray} (hr:DrR D r) (hm:m≤1048576) (hs:s.data.toList= [122,122]):folR r m s= -1:=by
 by_cases h5:r.kind=5
 ·exact fol_5_no h5 hm (by rw [hs];decide)
 by_cases h6:r.kind=6
 ·exact fol_6_no h6 fun k hk _ e=> (hr.nsz _ (List.getElem_mem hk)).2 (by rw [e,hs])
 refine fol_0_no h5 h6 fun e=> ?_
 rw [hs] at e
 unfold stepR at e
 rw [if_neg h5,if_neg (by omega),if_neg (by omega)] at e
 have hl:=congrArg List.length e
 split at hl <;> (try split at hl) <;> (try split at hl) <;> simp at hl
theorem partsTo_one {s t:ByteArray} (hs:s.data.toList=47::t.data.toList) (hn:∀c∈t.data.toList,c≠47):∀k,1≤k→k≤s.size→partsTo s 47 k=([s.extract 0 0],1)
 |0,h,_=> by omega
 |k+1,_,h=> by
  have hsz:s.size=t.data.toList.length+1:=by rw [Lib.size_eq,hs];rfl
  have hat:∀j,s.data[j]?=(47::t.data.toList)[j]?:=fun j=> by rw [←hs,Array.getElem?_toList]
  by_cases hz:k=0
  ·subst hz
   have h0:s.data[0]?=some 47:=by rw [hat];rfl
   simp [partsTo,h0]
  ·rw [partsTo,partsTo_one hs hn k (by omega) (by omega),if_neg]
   intro e
   rw [hat] at e
   obtain ⟨j,rfl⟩:∃j,k=j+1:=⟨k - 1,by omega⟩
   rw [List.getElem?_cons_succ] at e
   exact hn 47 (List.mem_of_getElem? e) rfl
theorem tail_one {s t:ByteArray} (hs:s.data.toList=47::t.data.toList) (hn:∀c∈t.data.toList,c≠47):tailT s= [t]:=by
 have hsz:s.size=t.data.toList.length+1:=by rw [Lib.size_eq,hs];rfl
 unfold tailT splitT
 rw [partsTo_one hs hn _ (by omega) (Nat.le_refl _)]
 show [s.extract 1 s.size]= [t]
 congr 1
 apply ByteArray.ext
 apply Array.ext'
 rw [ByteArray.data_extract,Array.toList_extract,hs]
 have:s.size - 1=t.data.toList.length:=by omega
 simp only [List.extract,List.drop_succ_cons,List.drop_zero]
 rw [this,List.take_length]
theorem sp_one {s t:ByteArray} (hs:s.data.toList=47::t.data.toList) (hn:∀c∈t.data.toList,c≠47) (ht:isStep t=true):spOk isStep s=true∧spL isStep s= [t]:=by
 have hsz:s.size=t.data.toList.length+1:=by rw [Lib.size_eq,hs];rfl
 have hat:s.data[0]?=some 47:=by rw [←Array.getElem?_toList,hs];rfl
 have h1:spOk isStep s=true:=by
  unfold spOk
  rw [tail_one hs hn,hat]
  simp [ht]
 exact ⟨h1,by unfold spL;rw [if_pos ⟨by omega,h1⟩,tail_one hs hn]⟩
theorem sp_none {s:ByteArray} (hs:s.size=0):spOk isStep s=true∧spL isStep s= []:=by
 refine ⟨by unfold spOk;rw [hs];rfl,by unfold spL;rw [if_neg (by omega)]⟩
theorem zz_step {s:ByteArray} (hs:s.data.toList= [122,122]):isStep s=true:=by
 have:s=⟨#[122,122]⟩:=by apply ByteArray.ext;apply Array.ext';exact hs
 subst this
 rfl
section
variable {D:List RuleD} {x:Val}
theorem valid_own {D:List RuleD} {x:Val} {k:Nat} (hk:k < D.length) (h:validV D k x=true):ownB D D[k] x.n x.b.length x.items.length=true:=by
 rw [validV_mk] at h
 have:ruleAt D k=some D[k]:=by unfold ruleAt;rw [if_pos (by omega),Int.toNat_natCast,List.getElem?_eq_getElem hk]
 rw [this] at h
 simp only [Bool.and_eq_true] at h
 exact h.1
theorem known_at {D:List RuleD} {k:Nat} (hvd:validD D=true) (hk:k < D.length):knownD D k=true:=by
 unfold knownD
 rw [hvd,Bool.and_true]
 exact inB_iff.2 (by omega)
theorem follow_at' {D:List RuleD} {k:Nat} (hvd:validD D=true) (hk:k < D.length) (m:Nat) (s:ByteArray):followOf D k m s=folR D[k] m s:=by
 obtain ⟨j,hj,e,h⟩:=followOf_at (known_at hvd hk)
 have:j=k:=by omega
 subst this
 exact h m s
theorem step_at' {D:List RuleD} {k:Nat} (hvd:validD D=true) (hk:k < D.length) (i:Nat):stepOf D k i=stepR D[k] i:=by
 obtain ⟨j,hj,e,h⟩:=stepOf_at (i:=i) (known_at hvd hk) (by omega)
 have:j=k:=by omega
 subst this
 exact h
theorem drawn_step (hd:DrD D) (h1:1≤D.length) (hl:D.length≤9) (hv:validV D (D.length - 1:Nat) x=true) {i:Nat} (hi:i < x.items.length):StepOk (D[D.length - 1]'(by omega)) x.items.length i:=
 step_ok (hd _ (by omega)) (valid_items hv hd.small) (valid_own (by omega) hv) hi
theorem find_item (hd:DrD D) (h1:1≤D.length) (hl:D.length≤9) (hv:validV D (D.length - 1:Nat) x=true) {i:Nat} (hi:i < x.items.length):
  findV D x true [stepR (D[D.length - 1]'(by omega)) i]=(x.items[i],itemR (D[D.length - 1]'(by omega)) x.n i,true):=by
 have hS:=drawn_step hd h1 hl hv hi
 have hvd:=hd.valid h1 hl
 have hk:D.length - 1 < D.length:=by omega
 have hc:((D.length:Int) - 1)=((D.length - 1:Nat):Int):=by omega
 refine findV_some (by rw [hc,hv,known_at hvd hk];rfl) ?_
 rw [walkV_at (j:=i) (by rw [follow_at' hvd hk];exact hS.fol) hi,walkV_nil,itemAt_at hk]
theorem find_whole (hd:DrD D) (h1:1≤D.length) (hl:D.length≤9) (hv:validV D (D.length - 1:Nat) x=true):findV D x true []=(x,((D.length - 1:Nat):Int),true):=by
 have hvd:=hd.valid h1 hl
 have hk:D.length - 1 < D.length:=by omega
 have hc:((D.length:Int) - 1)=((D.length - 1:Nat):Int):=by omega
 exact findV_some (by rw [hc,hv,known_at hvd hk];rfl) (walkV_nil ..)
theorem follow_zz (hd:DrD D) (h1:1≤D.length) (hl:D.length≤9) (hv:validV D (D.length - 1:Nat) x=true) {s:ByteArray} (hs:s.data.toList= [122,122]):followOf D (D.length - 1:Nat) x.items.length s= -1:=by
 have hvd:=hd.valid h1 hl
 have hk:D.length - 1 < D.length:=by omega
 rw [follow_at' hvd hk]
 exact fol_zz (hd _ hk) (valid_items hv hd.small) hs
theorem find_zz (hd:DrD D) (h1:1≤D.length) (hl:D.length≤9) (hv:validV D (D.length - 1:Nat) x=true) {s:ByteArray} (hs:s.data.toList= [122,122]):findV D x true [s]=(noVal, -1,false):=
 findV_none (walkV_no (by rw [follow_zz hd h1 hl hv hs];decide))
end
end Go.Proofs.YteldgdelmaeokaaDoor
namespace Go.Proofs.YteldgdelmaeokaaDoor
open Go.RowKit
set_option maxHeartbeats 2000000 in
set_option maxRecDepth 100000 in
theorem specItemRule_any (v:Value) (l:List RM) (k i:Nat) (x:VM) (B:Nat) (w:World) (h:SlD w B v l) (hB:B≤w.heap.size) (ok:∀r∈l,r.d.ok) (sm:∀r∈l,r.d.small 1048576) (hx:x.rd w B) (hv:validD (l.map RM.d)=true) (hk:k < l.length) (hi:i < x.items.length) (hm:x.items.length≤4194304):
  Calls Tryd.prog 18 #[.agg #[v], .int .i64 k,vmV x, .int .i64 i] w fun e w'=> e= .returned (.int .i64 (itemR l[k].d x.n i))∧Below w.heap.size w w':=by
 have hlm:(l.map RM.d).length=l.length:=List.length_map ..
 have hK:∀W,Below w.heap.size w W→Calls Tryd.prog 40 #[.agg #[v], .int .i64 k] W fun e w'=> e= .returned (.bool true)∧Below W.heap.size W w':=fun W hb=> by
  have:=specKnown_any v l k B W (h.below (hb.mono hB)) (by have:=hb.size;omega) ok sm
  rwa [show knownD (l.map RM.d) k=true by unfold knownD;rw [hv,hlm,inB_true (by omega) (by omega)];rfl] at this
 have hC:∀W,Below w.heap.size w W→Calls Tryd.prog 39 #[rmV l[k], .int .i64 x.n, .int .i64 i] W fun e w'=> e= .returned (.int .i64 (itemR l[k].d x.n i))∧Below W.heap.size W w':=fun W hb=>
  l9Item_any (l.map RM.d) l[k] x.n i B W ((h.2 _ (List.getElem_mem hk)).below (hb.mono hB)) (by have:=hb.size;omega) (by
   have:=ruleOk_kind (validD_at hv (k:=k) (by rw [hlm];exact hk))
   rwa [List.getElem_map] at this) (sm _ (List.getElem_mem hk)) (by omega)
 obtain ⟨A,c,rfl,hc,hm', -⟩:=h.open_
 obtain ⟨b,off,A1,c1,A2,c2,A3,c3,A4,c4,rfl,hbB,e1,e2,e3,e4,m1,m2,m3,m4,hcell⟩:=rule_cells h k hk
 obtain ⟨xn,xb,vb,vi,L⟩:=x
 obtain ⟨Ab,cb,eb, -⟩:=hx.bytes.open_
 obtain ⟨Ai,ci,ei, -, -, -⟩:=hx.its.open_
 simp only [VM.vb_mk,VM.b_mk,VM.vi_mk,VM.items_mk,VM.n_mk] at eb ei hm hi hC ⊢
 subst eb ei
 clear hx
 show Calls Tryd.prog 18 #[.agg #[.slice (some ⟨b,off,none⟩) l.length c], .int .i64 k, .agg #[.int .i64 xn, .slice Ab xb.length cb, .slice Ai L.length ci], .int .i64 i] w _
 generalize L.length=m at*
 unfold maxLen at hm'
 unfold rmV at hC
 rw [e1,e2,e3,e4] at hC
 have HK:=Lib.hid hK
 have HC:=Lib.hid hC
 have HCL:=Lib.hid hcell
 have hin:inB (i:Int) 0 ((m:Int) - 1)=true:=inB_true (by omega) (by omega)
 obtain ⟨W0,hW0⟩:∃W0,W0=(w.alloc (.cells #[.slice (some ⟨b,off,none⟩) l.length c] 26)).alloc (.cells #[.int .i64 xn, .slice Ab xb.length cb, .slice Ai m ci] 29):=⟨_,rfl⟩
 have hbW:Below w.heap.size w W0:=by rw [hW0];exact (Below.allocW w _ (Nat.le_refl _)).alloc (by simp) _
 have zW:w.heap.size+2≤W0.heap.size:=by rw [hW0];simp
 have s0:W0.cell? ⟨w.heap.size,0,none⟩=some (.slice (some ⟨b,off,none⟩) l.length c):=by rw [hW0];simp [go_sem]
 have v0:W0.cell? ⟨w.heap.size+1,0,none⟩=some (.int .i64 xn):=by rw [hW0];simp [go_sem]
 have v1:W0.cell? ⟨w.heap.size+1,1,none⟩=some (.slice Ab xb.length cb):=by rw [hW0];simp [go_sem]
 have v2:W0.cell? ⟨w.heap.size+1,2,none⟩=some (.slice Ai m ci):=by rw [hW0];simp [go_sem]
 have hmw:IntKind.i64.wrap ((m:Int) - 1)=(m:Int) - 1:=IntWalk.i64_in _ (by omega)
 clear hK hC h hcell m1 m2 m3 m4 e1 e2 e3 e4 ok sm hv hlm
 generalize l[k]=r at*
 generalize r.d=d at*
 go_enter Tryd.func18,Tryd.ntmps18
 go_wp2_with fail
 rw [←hW0]
 clear hW0
 refine (HK.out _ hbW).mono ?_
 rintro e w1 ⟨rfl,bel⟩
 have hb1:=below_step bel hbW
 have s0:=cell_later bel s0
 have v0:=cell_later bel v0
 have v2:=cell_later bel v2
 clear bel v1
 go_wp2_with fail
 refine (l1In_any _ _ _ _).mono ?_
 rintro e w2 ⟨rfl,rfl⟩
 rw [hin]
 obtain ⟨x0,x1,x2,x3,x4,x5,x6,x7⟩:=HCL.out w1 (below_cells hb1 hB)
 clear HCL HK
 go_wp2_with fail
 have bq:=(Below.refl w1.heap.size w1).drew
 have bw:=hb1.drew
 refine wp_region_held_drew (S:=(fun w9=> w9.cell? ⟨w.heap.size,0,none⟩=some (.slice (some ⟨b,off,none⟩) l.length c)∧w9.cell? ⟨w.heap.size+1,0,none⟩=some (.int .i64 xn)∧w9.cell? ⟨w.heap.size+1,2,none⟩=some (.slice Ai m ci)∧w9.cell? ⟨b,off+k*8,none⟩=some (.string d.name)∧w9.cell? ⟨b,off+k*8+1,none⟩=some (.int .i64 d.kind)∧w9.cell? ⟨b,off+k*8+2,none⟩=some (.int .i64 d.size)∧w9.cell? ⟨b,off+k*8+3,none⟩=some (.bool d.little)∧w9.cell? ⟨b,off+k*8+4,none⟩=some (.slice A1 d.bytes.length c1)∧w9.cell? ⟨b,off+k*8+5,none⟩=some (.slice A2 d.names.length c2)∧w9.cell? ⟨b,off+k*8+6,none⟩=some (.slice A3 d.tags.length c3)∧w9.cell? ⟨b,off+k*8+7,none⟩=some (.slice A4 d.kids.length c4))) (by kernel_rfl) ?_ (fun hHeld=> ?_)
 ·(try dsimp only);exact ⟨s0,v0,v2,x0,x1,x2,x3,x4,x5,x6,x7⟩
 refine rgTake 0 (some 22) hHeld _ ?_;try go_frame
 refine rgTake 1 (some 23) hHeld _ ?_;try go_frame
 refine rgTake 2 (some 24) hHeld _ ?_;try go_frame
 refine rgTake 3 (some 25) hHeld _ ?_;try go_frame
 refine rgTake 4 (some 26) hHeld _ ?_;try go_frame
 refine rgTake 5 (some 27) hHeld _ ?_;try go_frame
 refine rgTake 6 (some 28) hHeld _ ?_;try go_frame
 refine rgTake 7 (some 29) hHeld _ ?_;try go_frame
 refine rgStep 8 (fun K hK=> ?_)
 go_simp
 refine (HC.out _ bw).mono ?_;rintro e w6 ⟨rfl,bel6⟩;have bq:=below_step bel6 bq;have bw:=below_step bel6 bw
 (try go_wp2_with fail)
 refine hK.out _ _ ?_ (fun hHeld=> ?_)
 ·(try dsimp only);exact ⟨cell_later bq s0,cell_later bq v0,cell_later bq v2,cell_later bq x0,cell_later bq x1,cell_later bq x2,cell_later bq x3,cell_later bq x4,cell_later bq x5,cell_later bq x6,cell_later bq x7⟩
 clear hK K
 try go_frame
 refine rgTake 9 (some 8) hHeld _ ?_;try go_frame
 refine wpAnyH_done (by kernel_rfl) ?_ _
 have HF:=Lib.hid bw
 clear bq bw bel6 s0 v0 v2 x0 x1 x2 x3 x4 x5 x6 x7
 go_wp2
 go_ret
 exact ⟨rfl,HF.out⟩
end Go.Proofs.YteldgdelmaeokaaDoor
namespace Go.Proofs.YteldgdelmaeokaaDoor
open Go.RowKit
set_option maxHeartbeats 400000 in
theorem l1Size_any (v:Value) (l:List UInt8) (B:Nat) (w:World) (h:SlB w B v l) (hl:l.length≤1048576):
  Calls Tryd.prog 43 #[v, .int .i64 8] w fun e w'=> (∃m:Nat,e= .returned (.int .i64 m)∧m≤8)∧w=w':=by
 obtain ⟨A,c,rfl,hc,hm,hcell⟩:=h.open_
 unfold maxLen at hm
 clear h hcell
 have hq2:(l.length:Int) / 12=((l.length / 12:Nat):Int):=by omega
 generalize hn:l.length / 12=n at*
 have hn2:n≤1048576:=by omega
 by_cases h8:n≤5
 ·have hd:decide ((8:Int) < 3+(n:Int))=false:=decide_eq_false (by omega)
  clear hn
  go_enter Tryd.func43,Tryd.ntmps43
  go_wp2
  go_ret
  exact ⟨⟨3+n,by congr 2,by omega⟩,rfl⟩
 ·have hd:decide ((8:Int) < 3+(n:Int))=true:=decide_eq_true (by omega)
  clear hn
  go_enter Tryd.func43,Tryd.ntmps43
  go_wp2
  go_ret
  exact ⟨⟨8,rfl,by omega⟩,rfl⟩
def DrawVE (w:World) (e:Ending) (w':World):Prop:=
 ∃(A:Option Addr) (c:Nat) (L:List RM) (x:VM),e= .returned (.tuple #[.agg #[.slice A L.length c],vmV x])∧DrD (L.map RM.d)∧1≤L.length∧L.length≤6∧validV (L.map RM.d) (L.length - 1:Nat) x.d=true∧x.d.size≤589824∧SlD w' w'.heap.size (.slice A L.length c) L∧x.own w.heap.size w'∧Below w.heap.size w w'
set_option maxHeartbeats 4000000 in
set_option maxRecDepth 100000 in
theorem drawValue_any (v:Value) (l:List UInt8) (w:World) (h:SlB w w.heap.size v l) (hl:l.length≤1048576):Calls Tryd.prog 13 #[v] w (DrawVE w):=by
 obtain ⟨W0,hW0⟩:∃W0,W0=(w.alloc (.cells #[.slice none 0 0] 26)).alloc (.cells #[.int .i64 0, .slice none 0 0, .slice none 0 0] 29):=⟨_,rfl⟩
 have hb0:Below w.heap.size w W0:=by rw [hW0];exact ((Below.refl w.heap.size w).alloc (Nat.le_refl _) _).alloc (by simp) _
 have hz0:w.heap.size+2≤W0.heap.size:=by rw [hW0];simp
 have R0:Blk W0 w.heap.size 26 #[.slice none 0 0]:=by rw [hW0];exact (Blk.new w _ _).alloc _
 have Q0:Blk W0 (w.heap.size+1) 29 #[.int .i64 0, .slice none 0 0, .slice none 0 0]:=by rw [hW0];have:=Blk.new (w.alloc (.cells #[.slice none 0 0] 26)) 29 #[.int .i64 0, .slice none 0 0, .slice none 0 0];simpa using this
 have H0:=Lib.hid (And.intro (h.below hb0) (And.intro hb0 (And.intro R0 Q0)))
 clear h hb0 R0 Q0
 go_enter Tryd.func13,Tryd.ntmps13
 go_upto_region 1 with fail
 rw [←hW0]
 clear hW0
 go_wp2_with fail
 refine (l1New_any v l w.heap.size W0 H0.out.1 hl).mono ?_
 rintro e w1 ⟨rfl,xc,rfl⟩
 obtain ⟨W1,hW1⟩:∃W1,W1=W0.alloc (.cells #[v, .int .i64 0, .int .i64 xc] 98):=⟨_,rfl⟩
 rw [←hW1]
 have h01:Below W0.heap.size W0 W1:=by rw [hW1];exact (Below.refl _ _).alloc (Nat.le_refl _) _
 have hc1:CurW W0.heap.size v l W1:=by rw [hW1];exact ⟨(SlB.more (B':=W0.heap.size) H0.out.1 (by omega)).below ((Below.refl _ _).alloc (Nat.le_refl _) _),cur_new⟩
 have H1:=Lib.hid (And.intro hc1 (And.intro (below_step h01 H0.out.2.1) (And.intro (H0.out.2.2.1.below h01) (H0.out.2.2.2.below h01))))
 have hz1:W0.heap.size < W1.heap.size:=hc1.lt
 clear hW1 h01 hc1 H0
 go_wp2_with fail
 refine (l4Description_any W0.heap.size v l W1 H1.out.1).mono ?_
 rintro e w2 ⟨A,c,L,rfl,hdr,hl1,hl6,hdg,hgo,hcu⟩
 have hz2:=hgo.size
 obtain ⟨W3,hW3⟩:∃W3,W3=w2.alloc (.cells #[.slice A L.length c] 26):=⟨_,rfl⟩
 have h23:Below w2.heap.size w2 W3:=by rw [hW3];exact (Below.refl _ _).alloc (Nat.le_refl _) _
 have D3:Blk W3 w2.heap.size 26 #[.slice A L.length c]:=by rw [hW3];exact Blk.new w2 _ _
 have hz3:w2.heap.size < W3.heap.size:=D3.lt
 have hgo3:=hgo.trans (GoB.of_below h23)
 have HS3:=Lib.hid (hdg.stays.below h23)
 have H3:=Lib.hid (And.intro (hcu.below h23) (And.intro (hgo3.below H1.out.2.1 (by have:=H1.out.2.1.size;omega) (by omega)) (And.intro (H1.out.2.2.1.go hgo3 (by omega)) (And.intro (H1.out.2.2.2.go hgo3 (by omega)) D3))))
 have hlm:(L.map RM.d).length=L.length:=List.length_map ..
 have HDR:=Lib.hid hdr
 have hl1w:IntKind.i64.wrap ((L.length:Int) - 1)=((L.length - 1:Nat):Int):=by rw [IntWalk.i64_in _ (by omega)];omega
 have s0:W3.cell? ⟨w2.heap.size,0,none⟩=some (.slice A L.length c):=D3.cell 0 rfl
 have r0:W3.cell? ⟨w.heap.size,0,none⟩=some (.slice none 0 0):=H3.out.2.2.1.cell 0 rfl
 have rf:W3.frozen? ⟨w.heap.size,0,none⟩=false:=H3.out.2.2.1.frozen 0
 clear hdg hgo hcu h23 D3 hgo3 hdr H1
 go_upto_region 3 with fail
 rw [←hW3]
 clear hW3
 refine wp_region_held_drew (S:=(fun w9=> w9.cell? ⟨w2.heap.size,0,none⟩=some (.slice A L.length c))) (by kernel_rfl) ?_ (fun hHeld=> ?_)
 ·(try dsimp only);exact s0
 refine rgTake 0 (some 10) hHeld _ ?_;try go_frame
 refine rgTake 1 (some 11) hHeld _ ?_;try go_frame
 refine rgTake 2 (some 12) hHeld _ ?_;try go_frame
 refine rgTake 3 (some 13) hHeld _ ?_;try go_frame
 refine rgTake 4 (some 14) hHeld _ ?_;try go_frame
 refine rgTake 5 (some 15) hHeld _ ?_;try go_frame
 refine rgTake 6 (some 16) hHeld _ ?_;try go_frame
 refine rgTake 7 (some 17) hHeld _ ?_;try go_frame
 refine rgStep 8 (fun K hK=> ?_)
 go_simp
 refine (l1Size_any v l W0.heap.size W3.drew H3.out.1.sl hl).mono ?_;rintro e w4 ⟨⟨m,rfl,hm8⟩,rfl⟩;have k0:=s0
 (try go_wp2_with fail)
 refine hK.out _ _ ?_ (fun hHeld=> ?_)
 ·(try dsimp only);exact k0
 clear hK K
 try go_frame
 refine rgTake 9 (some 19) hHeld _ ?_;try go_frame
 refine rgStep 10 (fun K hK=> ?_)
 go_simp
 rw [show IntKind.i64.wrap (4+(m:Int))=((4+m:Nat):Int) from by rw [IntWalk.i64_in _ (by omega)];omega];refine (l9Make_any W0.heap.size (W1.heap.size+2) w2.heap.size v _ l L (L.length - 1) (4+m) W3.drew H3.out.1.drew (HS3.out.step (Nat.le_refl _) fun _ _ _=> rfl) (by omega) (by have:=hz3;show _≤W3.heap.size;omega) HDR.out (by omega) (by omega) (by omega)).mono ?_;rintro e w4 ⟨x,rfl,hxv,hxs,hxo,hgo4,hcu4⟩;obtain ⟨A5,c5,e5⟩:=own_slice hxo.own.bytes;obtain ⟨A6,c6,e6⟩:=own_slice hxo.own.row;have hz4:W3.heap.size≤w4.heap.size:=hgo4.size;have hgoq:GoB W0.heap.size W3 w4:=⟨hgo4.os,hgo4.tape,hgo4.output,hgo4.size,hgo4.block⟩;have H4:=Lib.hid (And.intro (hgoq.below H3.out.2.1 (by have:=H3.out.2.1.size;omega) (by omega)) (And.intro (H3.out.2.2.1.go hgoq (by omega)) (And.intro (H3.out.2.2.2.1.go hgoq (by omega)) (And.intro (H3.out.2.2.2.2.go hgoq (by omega)) (And.intro (HS3.out.go hgoq (by omega)) (And.intro hxo (And.intro hxv hxs)))))));have HE5:=Lib.hid (And.intro e5 e6);unfold vmV;rw [e5,e6];clear k0 r0 rf hxo hgo4 hcu4 hgoq hxv e5 e6;have k0:w4.cell? ⟨w2.heap.size,0,none⟩=some (.slice A L.length c):=H4.out.2.2.2.1.cell 0 rfl;have r0:w4.cell? ⟨w.heap.size,0,none⟩=some (.slice none 0 0):=H4.out.2.1.cell 0 rfl;have rf:w4.frozen? ⟨w.heap.size,0,none⟩=false:=H4.out.2.1.frozen 0
 (try go_wp2_with fail)
 refine hK.out _ _ ?_ (fun hHeld=> ?_)
 ·(try dsimp only);exact k0
 clear hK K
 try go_frame
 refine rgStep 11 (fun K hK=> ?_)
 (try go_simp)
 obtain ⟨Y1,hY⟩:∃V,V=w4.setCell ⟨w.heap.size,0,none⟩ (.slice A L.length c):=⟨_,rfl⟩;rw [←hY];have kd:Blk Y1 w2.heap.size 26 #[.slice A L.length c]:=(by rw [hY];exact H4.out.2.2.2.1.other (by omega) _);have kr:Blk Y1 w.heap.size 26 #[.slice A L.length c]:=(by rw [hY];have:=H4.out.2.1.set 0 (.slice A L.length c);simpa using this);have kq:Blk Y1 (w.heap.size+1) 29 #[.int .i64 0, .slice none 0 0, .slice none 0 0]:=(by rw [hY];exact H4.out.2.2.1.other (by omega) _);have HY1:=Lib.hid hY;clear hY k0 r0 rf;have k0:Y1.cell? ⟨w2.heap.size,0,none⟩=some (.slice A L.length c):=kd.cell 0 rfl;obtain ⟨⟨p0,p1,p2⟩,g0,g1,g2⟩:=kq.c3
 refine hK.out _ _ ?_ (fun hHeld=> ?_)
 ·(try dsimp only);exact k0
 clear hK K
 try go_frame
 refine rgStep 12 (fun K hK=> ?_)
 (try go_simp)
 obtain ⟨Y2,hY⟩:∃V,V=((Y1.setCell ⟨w.heap.size+1,0,none⟩ (.int .i64 x.n)).setCell ⟨w.heap.size+1,1,none⟩ (.slice A5 x.b.length c5)).setCell ⟨w.heap.size+1,2,none⟩ (.slice A6 x.items.length c6):=⟨_,rfl⟩;rw [←hY];have kd2:Blk Y2 w2.heap.size 26 #[.slice A L.length c]:=(by rw [hY];exact ((kd.other (by omega) _).other (by omega) _).other (by omega) _);have kr2:Blk Y2 w.heap.size 26 #[.slice A L.length c]:=(by rw [hY];exact ((kr.other (by omega) _).other (by omega) _).other (by omega) _);have kq2:Blk Y2 (w.heap.size+1) 29 #[.int .i64 x.n, .slice A5 x.b.length c5, .slice A6 x.items.length c6]:=(by rw [hY];have:=((kq.set 0 (.int .i64 x.n)).set 1 (.slice A5 x.b.length c5)).set 2 (.slice A6 x.items.length c6);simpa using this);have HY2:=Lib.hid hY;clear hY k0 p0 p1 p2 g0 g1 g2 kd kr kq;have k0:Y2.cell? ⟨w2.heap.size,0,none⟩=some (.slice A L.length c):=kd2.cell 0 rfl
 refine hK.out _ _ ?_ (fun hHeld=> ?_)
 ·(try dsimp only);exact k0
 clear hK K
 try go_frame
 refine wpAnyH_done (by kernel_rfl) ?_ _
 have t0:Y2.cell? ⟨w.heap.size,0,none⟩=some (.slice A L.length c):=kr2.cell 0 rfl
 obtain ⟨⟨t1,t2,t3⟩, -⟩:=kq2.c3
 have hset:∀q,q≠w.heap.size→q≠w.heap.size+1→Y2.heap[q]?=w4.heap[q]?:=fun q h1 h2=> by rw [HY2.out,HY1.out,Below.heap_setCell _ _ _ q h2,Below.heap_setCell _ _ _ q h2,Below.heap_setCell _ _ _ q h2,Below.heap_setCell _ _ _ q h1]
 have hsz:Y2.heap.size=w4.heap.size:=by rw [HY2.out,HY1.out];simp [World.setCell]
 have hsd:SlD Y2 Y2.heap.size (.slice A L.length c) L:=(H4.out.2.2.2.2.1.2 Y2 (by omega) fun k h1 h2=> hset k (by omega) (by omega)).more (by omega)
 have hz43:(W3.drew).heap.size=W3.heap.size:=rfl
 have hxw:x.own w.heap.size Y2:=(H4.out.2.2.2.2.2.1.own.keep fun q hq=> by have:=(H4.out.2.2.2.2.2.1.own.lt q hq).1;exact hset q (by omega) (by omega)).base (by omega)
 have hbf:Below w.heap.size w Y2:=by
  rw [HY2.out,HY1.out]
  have h1:=H4.out.1.setCell (p:=⟨w.heap.size,0,none⟩) (Nat.le_refl _) (.slice A L.length c)
  have h2:=h1.setCell (p:=⟨w.heap.size+1,0,none⟩) (by show w.heap.size≤w.heap.size+1;omega) (.int .i64 x.n)
  have h3:=h2.setCell (p:=⟨w.heap.size+1,1,none⟩) (by show w.heap.size≤w.heap.size+1;omega) (.slice A5 x.b.length c5)
  exact h3.setCell (p:=⟨w.heap.size+1,2,none⟩) (by show w.heap.size≤w.heap.size+1;omega) (.slice A6 x.items.length c6)
 have hsb:=sB_bd (k:=L.length - 1) (by omega)
 have HF:=Lib.hid (And.intro hsd (And.intro hxw hbf))
 clear hsd hxw hbf hset k0 kd2 kr2 kq2 hHeld
 go_wp2
 exact bodyPost_ret (v:= .tuple #[.agg #[.slice A L.length c], .agg #[.int .i64 x.n, .slice A5 x.b.length c5, .slice A6 x.items.length c6]]) (by simp [results,Tryd.results13,go_sem,t0,t1,t2,t3]) rfl
  ⟨A,c,L,x,by unfold vmV;rw [HE5.out.1,HE5.out.2],HDR.out,hl1,hl6,H4.out.2.2.2.2.2.2.1,by omega,HF.out⟩
end Go.Proofs.YteldgdelmaeokaaDoor
