/- The walk of the law FnReplacements. No condition but those of its argument. -/
import Derived.Test.YteldgdelmaeokaaDoorGdg
import Derived.Test.YteldgdelmaeokaaDoorGdh
import Derived.Test.YteldgdelmaeokaaDoorGrc
import Derived.Test.YteldgdelmaeokaaDoorGrb
import Derived.Test.YteldgdelmaeokaaDoorGa
import Derived.IntWalk
import Derived.WalkSpells
import Derived.WalkLawsBesides
import Derived.Deep.RegionHeld3
import Derived.Deep.DeepCutAuto
set_option linter.unusedSimpArgs false
set_option linter.unusedVariables false
namespace Go.Proofs.YteldgdelmaeokaaDoor.FnReplacements
open Go.RowKit
theorem size_itemsV {X Y:Val} (h:Y∈X.items):Y.size≤X.size:=by
 cases X with
 |mk n b l=>
  have h1:Y∈l:=h
  have:=Val.size_le_of_mem h1
  rw [Val.size_mk]
  omega
theorem walkV_sz {D:List RuleD}:∀{t:List ByteArray} {k k':Int} {x y:Val},walkV D k x t=some (k',y)→y.size≤x.size
 | [],k,k',x,y,hw=> by rw [walkV_nil] at hw;cases hw;exact Nat.le_refl _
 |s::t,k,k',x,y,hw=> by
  rcases followOf_bd D k x.items.length s with e|⟨j,hj,e⟩
  ·rw [walkV_no (by omega)] at hw;cases hw
  ·rw [walkV_at e hj] at hw
   exact Nat.le_trans (walkV_sz hw) (size_itemsV (List.getElem_mem hj))
theorem editV_stay {D:List RuleD} {x z:Val} {ok:Bool} {S:List ByteArray} {chg:Int→Val→Option Val} (h:editV D x ok S chg=(z,false)):z=x:=by
 unfold editV at h
 split at h
 ·split at h
  ·simp at h;exact h.symm
  ·split at h
   ·simp at h;exact h.symm
   ·simp at h
 ·simp at h;exact h.symm
set_option maxHeartbeats 8000000 in
set_option maxRecDepth 100000 in
theorem walk (v:Value) (l:List UInt8) (w:World) (h:SlB w w.heap.size v l) (ht:Tab w):
  Calls Tryd.prog 3 #[v] w fun e w'=> e= .returned (.bool true)∧Below w.heap.size w w':=by
 obtain ⟨A0,c0,rfl,hcc⟩:=h.open_
 clear hcc
 by_cases hbig:1048576 < (l.length:Int)
 ·have HB:=Lib.hid hbig
  clear hbig
  go_enter Tryd.func3,Tryd.ntmps3
  go_wp2_with fail
  refine (big_any _ l _ w h).mono ?_
  rintro e w1 ⟨rfl,rfl⟩
  rw [decide_eq_true HB.out]
  go_wp2
  go_ret
  exact ⟨rfl,Below.refl _ _⟩
 have hl:l.length≤1048576:=by omega
 have HT:=Lib.hid ht
 clear hbig ht
 go_enter Tryd.func3,Tryd.ntmps3
 go_wp2_with fail
 refine (big_any _ l _ w h).mono ?_
 rintro e w1 ⟨rfl,rfl⟩
 rw [decide_eq_false (show ¬(1048576 < (l.length:Int)) by omega)]
 go_wp2_with fail
 refine (drawReplace_any _ l w h hl).mono ?_
 rintro e w1 ⟨A,c,L,x,y,S,rfl,hdr,hl1,hl9,hxs,hys,hSs,hsd,hxr,hyr,hb1⟩
 have hlm:(L.map RM.d).length=L.length:=List.length_map ..
 have hok:∀r∈L,r.d.ok:=fun r hr=> hdr.ok (by rw [hlm];exact hl9) _ (List.mem_map_of_mem hr)
 have hsm:∀r∈L,r.d.small 1048576:=fun r hr=> hdr.small _ (List.mem_map_of_mem hr)
 obtain ⟨Ax,cx,ex, -⟩:=hxr.bytes.open_
 obtain ⟨Bx,dx,fx, -⟩:=hxr.its.open_
 obtain ⟨Ay,cy,ey, -⟩:=hyr.bytes.open_
 obtain ⟨By,dy,fy, -⟩:=hyr.its.open_
 obtain ⟨Z,ok,hed⟩:∃Z ok,editV (L.map RM.d) x.d (spOk isStep S) (spL isStep S) (repC (L.map RM.d) y.d)=(Z,ok):=⟨_,_,rfl⟩
 have hZs:Z.size≤1179650:=by
  have:=editV_size (N:=589824) (fun k y' p _ hc=> by unfold repC at hc;split at hc <;> simp at hc;subst hc;exact hys) hed
  omega
 have hI:∀W,Below w1.heap.size w1 W→Calls Tryd.prog 8 #[.agg #[.slice A L.length c],vmV x, .string S,vmV y] W (Made2 (OwV Z) (.bool ok) W):=fun W hb=> by
  have:=implRep_any _ L x y S w1.heap.size W (hsd.below hb) hb.size hok hsm (hxr.bel hb) (by omega) (hyr.bel hb) (by omega) (by omega) (tab_on HT.out (hb1.trans (hb.mono hb1.size)))
  rwa [hed] at this
 have hSp:∀W,Below w1.heap.size w1 W→Calls Tryd.prog 9 #[.agg #[.slice A L.length c],vmV x, .string S,vmV y] W (Made2 (OwV Z) (.bool ok) W):=fun W hb=> by
  have:=specRep_any _ L x y S w1.heap.size W (hsd.below hb) hb.size hok hsm (hxr.bel hb) (by omega) (hyr.bel hb) (by omega) (by omega)
  rwa [hed] at this
 have HB:=Lib.hid (And.intro hsd (And.intro hxr (And.intro hyr hb1)))
 have HE:=Lib.hid (And.intro ex (And.intro fx (And.intro ey fy)))
 have HOK:=Lib.hid (And.intro hok hsm)
 have HED:=Lib.hid hed
 unfold vmV at hI hSp ⊢
 rw [ex,fx,ey,fy] at hI hSp ⊢
 have HI:=Lib.hid hI
 have HSP:=Lib.hid hSp
 clear hI hSp hsd hxr hyr hb1 ex fx ey fy hok hsm hed hdr h
 obtain ⟨W2,hW2⟩:∃V,V=((w1.alloc (.cells #[.slice A L.length c] 26)).alloc (.cells #[.int .i64 x.n, .slice Ax x.b.length cx, .slice Bx x.items.length dx] 29)).alloc (.cells #[.int .i64 y.n, .slice Ay y.b.length cy, .slice By y.items.length dy] 29):=⟨_,rfl⟩
 have bW2:Below w1.heap.size w1 W2:=by rw [hW2];exact (((Below.refl w1.heap.size w1).alloc (Nat.le_refl _) _).alloc (by simp) _).alloc (by simp;omega) _
 have Kq:=Lib.hid (show Blk W2 (w1.heap.size) 26 #[.slice A L.length c] by rw [hW2];exact ((Blk.new w1 _ _).alloc _).alloc _)
 have Kx:=Lib.hid (show Blk W2 (w1.heap.size+1) 29 #[.int .i64 x.n, .slice Ax x.b.length cx, .slice Bx x.items.length dx] by rw [hW2];have:=(Blk.new (w1.alloc (.cells #[.slice A L.length c] 26)) 29 #[.int .i64 x.n, .slice Ax x.b.length cx, .slice Bx x.items.length dx]).alloc (.cells #[.int .i64 y.n, .slice Ay y.b.length cy, .slice By y.items.length dy] 29);simpa using this)
 have Ky:=Lib.hid (show Blk W2 (w1.heap.size+1+1) 29 #[.int .i64 y.n, .slice Ay y.b.length cy, .slice By y.items.length dy] by rw [hW2];have:=Blk.new ((w1.alloc (.cells #[.slice A L.length c] 26)).alloc (.cells #[.int .i64 x.n, .slice Ax x.b.length cx, .slice Bx x.items.length dx] 29)) 29 #[.int .i64 y.n, .slice Ay y.b.length cy, .slice By y.items.length dy];simpa using this)
 have q0:W2.cell? ⟨w1.heap.size,0,none⟩=some (.slice A L.length c):=Kq.out.cell 0 rfl
 obtain ⟨⟨x0,x1,x2⟩, -⟩:=Kx.out.c3
 obtain ⟨⟨y0,y1,y2⟩, -⟩:=Ky.out.c3
 go_upto_region 4 with fail
 rw [←hW2]
 clear hW2
 have HB2:=Lib.hid bW2
 go_wp2_with fail
 refine (HI.out _ HB2.out).mono ?_
 rintro e w3 ⟨vz,rfl,hz,bel⟩
 clear q0 x0 x1 x2 y0 y1 y2
 have Kq:=Lib.hid (show Blk w3 (w1.heap.size) 26 #[.slice A L.length c] from Kq.out.below bel)
 have Kx:=Lib.hid (show Blk w3 (w1.heap.size+1) 29 #[.int .i64 x.n, .slice Ax x.b.length cx, .slice Bx x.items.length dx] from Kx.out.below bel)
 have Ky:=Lib.hid (show Blk w3 (w1.heap.size+1+1) 29 #[.int .i64 y.n, .slice Ay y.b.length cy, .slice By y.items.length dy] from Ky.out.below bel)
 obtain ⟨z,hzd,rfl,hzo⟩:=hz
 obtain ⟨Az,cz,ez, -⟩:=hzo.own.rd.bytes.open_
 obtain ⟨Bz,dz,fz, -⟩:=hzo.own.rd.its.open_
 have Hz:=Lib.hid (And.intro hzd (And.intro hzo.own.rd (And.intro ez fz)))
 unfold vmV
 rw [ez,fz]
 clear ez fz hzd hzo
 obtain ⟨W4,hW4⟩:∃V,V=w3.alloc (.cells #[.int .i64 z.n, .slice Az z.b.length cz, .slice Bz z.items.length dz] 29):=⟨_,rfl⟩
 have bW4:Below w3.heap.size w3 W4:=by rw [hW4];exact (Below.refl _ _).alloc (Nat.le_refl _) _
 have Kq:=Lib.hid (show Blk W4 (w1.heap.size) 26 #[.slice A L.length c] from Kq.out.below bW4)
 have Kx:=Lib.hid (show Blk W4 (w1.heap.size+1) 29 #[.int .i64 x.n, .slice Ax x.b.length cx, .slice Bx x.items.length dx] from Kx.out.below bW4)
 have Ky:=Lib.hid (show Blk W4 (w1.heap.size+1+1) 29 #[.int .i64 y.n, .slice Ay y.b.length cy, .slice By y.items.length dy] from Ky.out.below bW4)
 have Kz:=Lib.hid (show Blk W4 (w3.heap.size) 29 #[.int .i64 z.n, .slice Az z.b.length cz, .slice Bz z.items.length dz] by rw [hW4];exact Blk.new w3 _ _)
 have hz34:=bW4.size
 have HB4:=Lib.hid (below_step bW4 (below_step bel HB2.out))
 have Hz:=Lib.hid (show z.d=Z∧z.rd W4 w3.heap.size∧_ from ⟨Hz.out.1,Hz.out.2.1.bel bW4,Hz.out.2.2⟩)
 have q0:W4.cell? ⟨w1.heap.size,0,none⟩=some (.slice A L.length c):=Kq.out.cell 0 rfl
 obtain ⟨⟨x0,x1,x2⟩, -⟩:=Kx.out.c3
 obtain ⟨⟨y0,y1,y2⟩, -⟩:=Ky.out.c3
 obtain ⟨⟨z0,z1,z2⟩, -⟩:=Kz.out.c3
 have HW4:=Lib.hid hW4
 clear hW4 bW4 bel HI HB2 bW2
 go_upto_region 5 with fail
 rw [←HW4.out]
 clear HW4
 go_wp2_with fail
 refine (HSP.out _ HB4.out).mono ?_
 rintro e w5 ⟨vz2,rfl,hz2,bel⟩
 obtain ⟨A2,c2,B2,d2,rfl⟩:=hz2.agg
 clear q0 x0 x1 x2 y0 y1 y2 z0 z1 z2
 have Kq:=Lib.hid (show Blk w5 (w1.heap.size) 26 #[.slice A L.length c] from Kq.out.below bel)
 have Kx:=Lib.hid (show Blk w5 (w1.heap.size+1) 29 #[.int .i64 x.n, .slice Ax x.b.length cx, .slice Bx x.items.length dx] from Kx.out.below bel)
 have Ky:=Lib.hid (show Blk w5 (w1.heap.size+1+1) 29 #[.int .i64 y.n, .slice Ay y.b.length cy, .slice By y.items.length dy] from Ky.out.below bel)
 have Kz:=Lib.hid (show Blk w5 (w3.heap.size) 29 #[.int .i64 z.n, .slice Az z.b.length cz, .slice Bz z.items.length dz] from Kz.out.below bel)
 obtain ⟨W6,hW6⟩:∃V,V=w5.alloc (.cells #[.int .i64 Z.n, .slice A2 Z.b.length c2, .slice B2 Z.items.length d2] 29):=⟨_,rfl⟩
 have bW6:Below w5.heap.size w5 W6:=by rw [hW6];exact (Below.refl _ _).alloc (Nat.le_refl _) _
 have Kq:=Lib.hid (show Blk W6 (w1.heap.size) 26 #[.slice A L.length c] from Kq.out.below bW6)
 have Kx:=Lib.hid (show Blk W6 (w1.heap.size+1) 29 #[.int .i64 x.n, .slice Ax x.b.length cx, .slice Bx x.items.length dx] from Kx.out.below bW6)
 have Ky:=Lib.hid (show Blk W6 (w1.heap.size+1+1) 29 #[.int .i64 y.n, .slice Ay y.b.length cy, .slice By y.items.length dy] from Ky.out.below bW6)
 have Kz:=Lib.hid (show Blk W6 (w3.heap.size) 29 #[.int .i64 z.n, .slice Az z.b.length cz, .slice Bz z.items.length dz] from Kz.out.below bW6)
 have HB6:=Lib.hid (below_step bW6 (below_step bel HB4.out))
 have Hz:=Lib.hid (show z.d=Z∧z.rd W6 w3.heap.size∧_ from ⟨Hz.out.1,(Hz.out.2.1.bel (bel.mono hz34)).bel (bW6.mono (by have:=bel.size;omega)),Hz.out.2.2⟩)
 have hz36:w3.heap.size≤W6.heap.size:=by have:=bel.size;have:=bW6.size;omega
 have q0:W6.cell? ⟨w1.heap.size,0,none⟩=some (.slice A L.length c):=Kq.out.cell 0 rfl
 obtain ⟨⟨x0,x1,x2⟩, -⟩:=Kx.out.c3
 obtain ⟨⟨y0,y1,y2⟩, -⟩:=Ky.out.c3
 obtain ⟨⟨z0,z1,z2⟩, -⟩:=Kz.out.c3
 have HW6:=Lib.hid hW6
 clear hW6 bW6 bel HSP HB4 hz2
 cases ok with
 |false=>
  have hst:=editV_stay HED.out
  have hE:Calls Tryd.prog 10 #[vmV z,vmV x] W6 fun e w'=> e= .returned (.bool true)∧Below W6.heap.size W6 w':=
   specEqV_any z x W6.heap.size W6 (by rw [Hz.out.1,hst]) (Hz.out.2.1.more (by omega)) ((HB.out.2.1.bel HB6.out).more HB6.out.size) (Nat.le_refl _) (by rw [Hz.out.1];omega)
  unfold vmV at hE
  rw [Hz.out.2.2.1,Hz.out.2.2.2,HE.out.1,HE.out.2.1] at hE
  have HEQ:=Lib.hid hE
  clear hE hst
  go_upto_region 9 with fail
  rw [←HW6.out]
  clear HW6
  go_wp2_with fail
  refine HEQ.out.mono ?_
  rintro e w7 ⟨rfl,bel⟩
  have HF:=Lib.hid (below_step (below_step bel HB6.out) HB.out.2.2.2)
  clear bel
  go_wp2
  go_ret
  exact ⟨rfl,HF.out⟩
 |true=>
  obtain ⟨k,Y,hk0,hf1,hf2,hed2,hvz⟩:=repV_back HED.out
  have hYs:Y.size≤589825:=Nat.le_trans (walkV_sz (findV_true hf1).2) hxs
  have hF1:∀W,Below W6.heap.size W6 W→Calls Tryd.prog 11 #[.agg #[.slice A L.length c],vmV z, .string S] W (FindE (y.d,k,true) W):=fun W hb=> by
   have hb1:=below_step hb HB6.out
   have:=specFind_any _ L z S W6.heap.size W ((HB.out.1.below hb1).more HB6.out.size) hb.size HOK.out.1 HOK.out.2 ((Hz.out.2.1.more hz36).bel hb) (by rw [Hz.out.1];omega) (by omega)
   rw [Hz.out.1] at this
   rwa [hf2] at this
  have hF2:∀W,Below W6.heap.size W6 W→Calls Tryd.prog 11 #[.agg #[.slice A L.length c],vmV x, .string S] W (FindE (Y,k,true) W):=fun W hb=> by
   have hb1:=below_step hb HB6.out
   have:=specFind_any _ L x S w1.heap.size W (HB.out.1.below hb1) hb1.size HOK.out.1 HOK.out.2 (HB.out.2.1.bel hb1) (by omega) (by omega)
   rwa [hf1] at this
  have hR:∀(u:VM) (lo:Nat) W,u.d=Y→Below W6.heap.size W6 W→u.rd W W.heap.size→Calls Tryd.prog 8 #[.agg #[.slice A L.length c],vmV z, .string S,vmV u] W (Made2 (OwV x.d) (.bool true) W):=fun u lo W hu hb hru=> by
   have hb1:=below_step hb HB6.out
   have:=implRep_any _ L z u S W.heap.size W ((HB.out.1.below hb1).more hb1.size) (Nat.le_refl _) HOK.out.1 HOK.out.2 (((Hz.out.2.1.more hz36).bel hb).more hb.size) (by rw [Hz.out.1];omega) hru (by rw [hu];omega) (by omega) (tab_on HT.out (HB.out.2.2.2.trans (hb1.mono HB.out.2.2.2.size)))
   rw [Hz.out.1,hu] at this
   rwa [hed2] at this
  have hV:∀W,Below W6.heap.size W6 W→Calls Tryd.prog 12 #[.agg #[.slice A L.length c], .int .i64 ((L.length:Int) - 1),vmV z] W fun e w'=> e= .returned (.bool true)∧Below W.heap.size W w':=fun W hb=> by
   have hb1:=below_step hb HB6.out
   have:=specValidValue_any _ L ((L.length:Int) - 1) z W6.heap.size W ((HB.out.1.below hb1).more HB6.out.size) hb.size HOK.out.1 HOK.out.2 ((Hz.out.2.1.more hz36).bel hb) (by rw [Hz.out.1];omega)
   have hv2:=hvz
   rw [Bool.and_eq_true,hlm] at hv2
   rwa [Hz.out.1,hv2.2] at this
  have hE1:∀(u:VM) (U:VM) W,u.d=U.d→u.rd W W.heap.size→U.rd W W.heap.size→u.d.size≤4194304→Calls Tryd.prog 10 #[vmV u,vmV U] W fun e w'=> e= .returned (.bool true)∧Below W.heap.size W w':=fun u U W hu h1 h2 h3=> specEqV_any u U W.heap.size W hu h1 h2 (Nat.le_refl _) h3
  have HKK:=Lib.hid hk0
  have HE1:=Lib.hid hE1
  have HR:=Lib.hid hR
  unfold vmV at hF1 hF2 hV
  rw [Hz.out.2.2.1,Hz.out.2.2.2] at hF1 hV
  rw [HE.out.1,HE.out.2.1] at hF2
  have HF1:=Lib.hid hF1
  have HF2:=Lib.hid hF2
  have HV:=Lib.hid hV
  have hkd:decide (0≤k)=true:=decide_eq_true hk0
  clear hF1 hF2 hR hV hE1 hf1 hf2 hed2 hvz
  go_upto_region 10 with fail
  rw [←HW6.out]
  clear HW6
  go_wp2_with fail
  refine (HF1.out W6 (Below.refl _ _)).mono ?_
  rintro e w7 ⟨vp,rfl,hp,bel⟩
  dsimp only at hp ⊢
  clear q0 x0 x1 x2 y0 y1 y2 z0 z1 z2
  have Kq:=Lib.hid (show Blk w7 (w1.heap.size) 26 #[.slice A L.length c] from Kq.out.below bel)
  have Kx:=Lib.hid (show Blk w7 (w1.heap.size+1) 29 #[.int .i64 x.n, .slice Ax x.b.length cx, .slice Bx x.items.length dx] from Kx.out.below bel)
  have Ky:=Lib.hid (show Blk w7 (w1.heap.size+1+1) 29 #[.int .i64 y.n, .slice Ay y.b.length cy, .slice By y.items.length dy] from Ky.out.below bel)
  have Kz:=Lib.hid (show Blk w7 (w3.heap.size) 29 #[.int .i64 z.n, .slice Az z.b.length cz, .slice Bz z.items.length dz] from Kz.out.below bel)
  obtain ⟨p,hpd,rfl,hpo⟩:=hp
  obtain ⟨Ap,cp,ep, -⟩:=hpo.own.rd.bytes.open_
  obtain ⟨Bp,dp,fp, -⟩:=hpo.own.rd.its.open_
  have Hp:=Lib.hid (And.intro hpd (And.intro hpo.own.rd (And.intro ep fp)))
  unfold vmV
  rw [ep,fp]
  clear ep fp hpd hpo
  obtain ⟨W8,hW8⟩:∃V,V=w7.alloc (.cells #[.int .i64 p.n, .slice Ap p.b.length cp, .slice Bp p.items.length dp] 29):=⟨_,rfl⟩
  have bW8:Below w7.heap.size w7 W8:=by rw [hW8];exact (Below.refl _ _).alloc (Nat.le_refl _) _
  have Kq:=Lib.hid (show Blk W8 (w1.heap.size) 26 #[.slice A L.length c] from Kq.out.below bW8)
  have Kx:=Lib.hid (show Blk W8 (w1.heap.size+1) 29 #[.int .i64 x.n, .slice Ax x.b.length cx, .slice Bx x.items.length dx] from Kx.out.below bW8)
  have Ky:=Lib.hid (show Blk W8 (w1.heap.size+1+1) 29 #[.int .i64 y.n, .slice Ay y.b.length cy, .slice By y.items.length dy] from Ky.out.below bW8)
  have Kz:=Lib.hid (show Blk W8 (w3.heap.size) 29 #[.int .i64 z.n, .slice Az z.b.length cz, .slice Bz z.items.length dz] from Kz.out.below bW8)
  have Kp:=Lib.hid (show Blk W8 (w7.heap.size) 29 #[.int .i64 p.n, .slice Ap p.b.length cp, .slice Bp p.items.length dp] by rw [hW8];exact Blk.new w7 _ _)
  have HB8:=Lib.hid (below_step bW8 bel)
  have Hp:=Lib.hid (show p.d=y.d∧p.rd W8 w7.heap.size∧_ from ⟨Hp.out.1,Hp.out.2.1.bel bW8,Hp.out.2.2⟩)
  have hz78:=bW8.size
  have q0:W8.cell? ⟨w1.heap.size,0,none⟩=some (.slice A L.length c):=Kq.out.cell 0 rfl
  obtain ⟨⟨x0,x1,x2⟩, -⟩:=Kx.out.c3
  obtain ⟨⟨y0,y1,y2⟩, -⟩:=Ky.out.c3
  obtain ⟨⟨z0,z1,z2⟩, -⟩:=Kz.out.c3
  obtain ⟨⟨p0,p1,p2⟩, -⟩:=Kp.out.c3
  have HW8:=Lib.hid hW8
  clear hW8 bW8 bel HF1
  go_upto_region 11 with fail
  rw [←HW8.out]
  clear HW8
  go_wp2_with fail
  refine (HF2.out W8 HB8.out).mono ?_
  rintro e w9 ⟨vu,rfl,hu,bel⟩
  dsimp only at hu ⊢
  clear q0 x0 x1 x2 y0 y1 y2 z0 z1 z2 p0 p1 p2
  have Kq:=Lib.hid (show Blk w9 (w1.heap.size) 26 #[.slice A L.length c] from Kq.out.below bel)
  have Kx:=Lib.hid (show Blk w9 (w1.heap.size+1) 29 #[.int .i64 x.n, .slice Ax x.b.length cx, .slice Bx x.items.length dx] from Kx.out.below bel)
  have Ky:=Lib.hid (show Blk w9 (w1.heap.size+1+1) 29 #[.int .i64 y.n, .slice Ay y.b.length cy, .slice By y.items.length dy] from Ky.out.below bel)
  have Kz:=Lib.hid (show Blk w9 (w3.heap.size) 29 #[.int .i64 z.n, .slice Az z.b.length cz, .slice Bz z.items.length dz] from Kz.out.below bel)
  have Kp:=Lib.hid (show Blk w9 (w7.heap.size) 29 #[.int .i64 p.n, .slice Ap p.b.length cp, .slice Bp p.items.length dp] from Kp.out.below bel)
  obtain ⟨u,hud,rfl,huo⟩:=hu
  obtain ⟨Au,cu,eu, -⟩:=huo.own.rd.bytes.open_
  obtain ⟨Bu,du,fu, -⟩:=huo.own.rd.its.open_
  have Hu:=Lib.hid (And.intro hud (And.intro huo.own.rd (And.intro eu fu)))
  unfold vmV
  rw [eu,fu]
  clear eu fu hud huo
  obtain ⟨W10,hW10⟩:∃V,V=w9.alloc (.cells #[.int .i64 u.n, .slice Au u.b.length cu, .slice Bu u.items.length du] 29):=⟨_,rfl⟩
  have bW10:Below w9.heap.size w9 W10:=by rw [hW10];exact (Below.refl _ _).alloc (Nat.le_refl _) _
  have Kq:=Lib.hid (show Blk W10 (w1.heap.size) 26 #[.slice A L.length c] from Kq.out.below bW10)
  have Kx:=Lib.hid (show Blk W10 (w1.heap.size+1) 29 #[.int .i64 x.n, .slice Ax x.b.length cx, .slice Bx x.items.length dx] from Kx.out.below bW10)
  have Ky:=Lib.hid (show Blk W10 (w1.heap.size+1+1) 29 #[.int .i64 y.n, .slice Ay y.b.length cy, .slice By y.items.length dy] from Ky.out.below bW10)
  have Kz:=Lib.hid (show Blk W10 (w3.heap.size) 29 #[.int .i64 z.n, .slice Az z.b.length cz, .slice Bz z.items.length dz] from Kz.out.below bW10)
  have Kp:=Lib.hid (show Blk W10 (w7.heap.size) 29 #[.int .i64 p.n, .slice Ap p.b.length cp, .slice Bp p.items.length dp] from Kp.out.below bW10)
  have Ku:=Lib.hid (show Blk W10 (w9.heap.size) 29 #[.int .i64 u.n, .slice Au u.b.length cu, .slice Bu u.items.length du] by rw [hW10];exact Blk.new w9 _ _)
  have HB10:=Lib.hid (below_step bW10 (below_step bel HB8.out))
  have Hu:=Lib.hid (show u.d=Y∧u.rd W10 w9.heap.size∧_ from ⟨Hu.out.1,Hu.out.2.1.bel bW10,Hu.out.2.2⟩)
  have hz910:=bW10.size
  have hz89:=bel.size
  have Hp:=Lib.hid (show p.d=y.d∧p.rd W10 w7.heap.size∧_ from ⟨Hp.out.1,(Hp.out.2.1.bel (bel.mono hz78)).bel (bW10.mono (by omega)),Hp.out.2.2⟩)
  have q0:W10.cell? ⟨w1.heap.size,0,none⟩=some (.slice A L.length c):=Kq.out.cell 0 rfl
  obtain ⟨⟨x0,x1,x2⟩, -⟩:=Kx.out.c3
  obtain ⟨⟨y0,y1,y2⟩, -⟩:=Ky.out.c3
  obtain ⟨⟨z0,z1,z2⟩, -⟩:=Kz.out.c3
  obtain ⟨⟨p0,p1,p2⟩, -⟩:=Kp.out.c3
  obtain ⟨⟨u0,u1,u2⟩, -⟩:=Ku.out.c3
  have hR:=HR.out u 0 W10 Hu.out.1 HB10.out (Hu.out.2.1.more hz910)
  unfold vmV at hR
  rw [Hz.out.2.2.1,Hz.out.2.2.2,Hu.out.2.2.1,Hu.out.2.2.2] at hR
  have HR1:=Lib.hid hR
  have HW10:=Lib.hid hW10
  clear hW10 bW10 bel HF2 hR HR
  go_upto_region 12 with fail
  rw [←HW10.out]
  clear HW10
  go_wp2_with fail
  refine HR1.out.mono ?_
  rintro e w11 ⟨vb,rfl,hb,bel⟩
  clear q0 x0 x1 x2 y0 y1 y2 z0 z1 z2 p0 p1 p2 u0 u1 u2
  have Kq:=Lib.hid (show Blk w11 (w1.heap.size) 26 #[.slice A L.length c] from Kq.out.below bel)
  have Kx:=Lib.hid (show Blk w11 (w1.heap.size+1) 29 #[.int .i64 x.n, .slice Ax x.b.length cx, .slice Bx x.items.length dx] from Kx.out.below bel)
  have Ky:=Lib.hid (show Blk w11 (w1.heap.size+1+1) 29 #[.int .i64 y.n, .slice Ay y.b.length cy, .slice By y.items.length dy] from Ky.out.below bel)
  have Kz:=Lib.hid (show Blk w11 (w3.heap.size) 29 #[.int .i64 z.n, .slice Az z.b.length cz, .slice Bz z.items.length dz] from Kz.out.below bel)
  have Kp:=Lib.hid (show Blk w11 (w7.heap.size) 29 #[.int .i64 p.n, .slice Ap p.b.length cp, .slice Bp p.items.length dp] from Kp.out.below bel)
  have Ku:=Lib.hid (show Blk w11 (w9.heap.size) 29 #[.int .i64 u.n, .slice Au u.b.length cu, .slice Bu u.items.length du] from Ku.out.below bel)
  obtain ⟨b,hbd,rfl,hbo⟩:=hb
  obtain ⟨Ab,cb,eb, -⟩:=hbo.own.rd.bytes.open_
  obtain ⟨Bb,db,fb, -⟩:=hbo.own.rd.its.open_
  have Hb:=Lib.hid (And.intro hbd (And.intro hbo.own.rd (And.intro eb fb)))
  unfold vmV
  rw [eb,fb]
  clear eb fb hbd hbo
  obtain ⟨W12,hW12⟩:∃V,V=w11.alloc (.cells #[.int .i64 b.n, .slice Ab b.b.length cb, .slice Bb b.items.length db] 29):=⟨_,rfl⟩
  have bW12:Below w11.heap.size w11 W12:=by rw [hW12];exact (Below.refl _ _).alloc (Nat.le_refl _) _
  have Kq:=Lib.hid (show Blk W12 (w1.heap.size) 26 #[.slice A L.length c] from Kq.out.below bW12)
  have Kx:=Lib.hid (show Blk W12 (w1.heap.size+1) 29 #[.int .i64 x.n, .slice Ax x.b.length cx, .slice Bx x.items.length dx] from Kx.out.below bW12)
  have Ky:=Lib.hid (show Blk W12 (w1.heap.size+1+1) 29 #[.int .i64 y.n, .slice Ay y.b.length cy, .slice By y.items.length dy] from Ky.out.below bW12)
  have Kz:=Lib.hid (show Blk W12 (w3.heap.size) 29 #[.int .i64 z.n, .slice Az z.b.length cz, .slice Bz z.items.length dz] from Kz.out.below bW12)
  have Kp:=Lib.hid (show Blk W12 (w7.heap.size) 29 #[.int .i64 p.n, .slice Ap p.b.length cp, .slice Bp p.items.length dp] from Kp.out.below bW12)
  have Ku:=Lib.hid (show Blk W12 (w9.heap.size) 29 #[.int .i64 u.n, .slice Au u.b.length cu, .slice Bu u.items.length du] from Ku.out.below bW12)
  have Kb:=Lib.hid (show Blk W12 (w11.heap.size) 29 #[.int .i64 b.n, .slice Ab b.b.length cb, .slice Bb b.items.length db] by rw [hW12];exact Blk.new w11 _ _)
  have HB12:=Lib.hid (below_step bW12 (below_step bel HB10.out))
  have hz1112:=bW12.size
  have hz1011:=bel.size
  have Hb:=Lib.hid (show b.d=x.d∧b.rd W12 w11.heap.size∧_ from ⟨Hb.out.1,Hb.out.2.1.bel bW12,Hb.out.2.2⟩)
  have Hp:=Lib.hid (show p.d=y.d∧p.rd W12 w7.heap.size∧_ from ⟨Hp.out.1,(Hp.out.2.1.bel (bel.mono (by omega))).bel (bW12.mono (by omega)),Hp.out.2.2⟩)
  have HB1:=Lib.hid (below_step HB12.out HB6.out)
  have hQ1:=HE1.out p y W12 Hp.out.1 (Hp.out.2.1.more (by omega)) ((HB.out.2.2.1.bel HB1.out).more HB1.out.size) (by rw [Hp.out.1];omega)
  unfold vmV at hQ1
  rw [Hp.out.2.2.1,Hp.out.2.2.2,HE.out.2.2.1,HE.out.2.2.2] at hQ1
  have HQ1:=Lib.hid hQ1
  have q0:W12.cell? ⟨w1.heap.size,0,none⟩=some (.slice A L.length c):=Kq.out.cell 0 rfl
  obtain ⟨⟨x0,x1,x2⟩, -⟩:=Kx.out.c3
  obtain ⟨⟨y0,y1,y2⟩, -⟩:=Ky.out.c3
  obtain ⟨⟨z0,z1,z2⟩, -⟩:=Kz.out.c3
  obtain ⟨⟨p0,p1,p2⟩, -⟩:=Kp.out.c3
  obtain ⟨⟨u0,u1,u2⟩, -⟩:=Ku.out.c3
  obtain ⟨⟨b0,b1,b2⟩, -⟩:=Kb.out.c3
  have hl1w:IntKind.i64.wrap ((L.length:Int) - 1)=(L.length:Int) - 1:=IntWalk.i64_in _ (by omega)
  have HW12:=Lib.hid hW12
  clear hW12 bW12 bel HR1 hQ1
  go_upto_region 13 with fail
  rw [←HW12.out]
  clear HW12
  go_wp2_with fail
  refine HQ1.out.mono ?_
  rintro e w13 ⟨rfl,bel⟩
  clear q0 x0 x1 x2 y0 y1 y2 z0 z1 z2 p0 p1 p2 u0 u1 u2 b0 b1 b2
  have Kq:=Lib.hid (show Blk w13 (w1.heap.size) 26 #[.slice A L.length c] from Kq.out.below bel)
  have Kx:=Lib.hid (show Blk w13 (w1.heap.size+1) 29 #[.int .i64 x.n, .slice Ax x.b.length cx, .slice Bx x.items.length dx] from Kx.out.below bel)
  have Ky:=Lib.hid (show Blk w13 (w1.heap.size+1+1) 29 #[.int .i64 y.n, .slice Ay y.b.length cy, .slice By y.items.length dy] from Ky.out.below bel)
  have Kz:=Lib.hid (show Blk w13 (w3.heap.size) 29 #[.int .i64 z.n, .slice Az z.b.length cz, .slice Bz z.items.length dz] from Kz.out.below bel)
  have Kp:=Lib.hid (show Blk w13 (w7.heap.size) 29 #[.int .i64 p.n, .slice Ap p.b.length cp, .slice Bp p.items.length dp] from Kp.out.below bel)
  have Ku:=Lib.hid (show Blk w13 (w9.heap.size) 29 #[.int .i64 u.n, .slice Au u.b.length cu, .slice Bu u.items.length du] from Ku.out.below bel)
  have Kb:=Lib.hid (show Blk w13 (w11.heap.size) 29 #[.int .i64 b.n, .slice Ab b.b.length cb, .slice Bb b.items.length db] from Kb.out.below bel)
  have q0:w13.cell? ⟨w1.heap.size,0,none⟩=some (.slice A L.length c):=Kq.out.cell 0 rfl
  obtain ⟨⟨x0,x1,x2⟩, -⟩:=Kx.out.c3
  obtain ⟨⟨y0,y1,y2⟩, -⟩:=Ky.out.c3
  obtain ⟨⟨z0,z1,z2⟩, -⟩:=Kz.out.c3
  obtain ⟨⟨p0,p1,p2⟩, -⟩:=Kp.out.c3
  obtain ⟨⟨u0,u1,u2⟩, -⟩:=Ku.out.c3
  obtain ⟨⟨b0,b1,b2⟩, -⟩:=Kb.out.c3
  have HB13:=Lib.hid (below_step bel HB12.out)
  have Hb:=Lib.hid (show b.d=x.d∧b.rd w13 w11.heap.size∧_ from ⟨Hb.out.1,Hb.out.2.1.bel (bel.mono hz1112),Hb.out.2.2⟩)
  have hz1213:=bel.size
  clear bel
  go_wp2_with fail
  refine (HV.out w13 HB13.out).mono ?_
  rintro e w14 ⟨rfl,bel⟩
  clear q0 x0 x1 x2 y0 y1 y2 z0 z1 z2 p0 p1 p2 u0 u1 u2 b0 b1 b2
  have Kq:=Lib.hid (show Blk w14 (w1.heap.size) 26 #[.slice A L.length c] from Kq.out.below bel)
  have Kx:=Lib.hid (show Blk w14 (w1.heap.size+1) 29 #[.int .i64 x.n, .slice Ax x.b.length cx, .slice Bx x.items.length dx] from Kx.out.below bel)
  have Ky:=Lib.hid (show Blk w14 (w1.heap.size+1+1) 29 #[.int .i64 y.n, .slice Ay y.b.length cy, .slice By y.items.length dy] from Ky.out.below bel)
  have Kz:=Lib.hid (show Blk w14 (w3.heap.size) 29 #[.int .i64 z.n, .slice Az z.b.length cz, .slice Bz z.items.length dz] from Kz.out.below bel)
  have Kp:=Lib.hid (show Blk w14 (w7.heap.size) 29 #[.int .i64 p.n, .slice Ap p.b.length cp, .slice Bp p.items.length dp] from Kp.out.below bel)
  have Ku:=Lib.hid (show Blk w14 (w9.heap.size) 29 #[.int .i64 u.n, .slice Au u.b.length cu, .slice Bu u.items.length du] from Ku.out.below bel)
  have Kb:=Lib.hid (show Blk w14 (w11.heap.size) 29 #[.int .i64 b.n, .slice Ab b.b.length cb, .slice Bb b.items.length db] from Kb.out.below bel)
  have q0:w14.cell? ⟨w1.heap.size,0,none⟩=some (.slice A L.length c):=Kq.out.cell 0 rfl
  obtain ⟨⟨x0,x1,x2⟩, -⟩:=Kx.out.c3
  obtain ⟨⟨y0,y1,y2⟩, -⟩:=Ky.out.c3
  obtain ⟨⟨z0,z1,z2⟩, -⟩:=Kz.out.c3
  obtain ⟨⟨p0,p1,p2⟩, -⟩:=Kp.out.c3
  obtain ⟨⟨u0,u1,u2⟩, -⟩:=Ku.out.c3
  obtain ⟨⟨b0,b1,b2⟩, -⟩:=Kb.out.c3
  have HB14:=Lib.hid (below_step (below_step bel HB13.out) HB6.out)
  have Hb:=Lib.hid (show b.d=x.d∧b.rd w14 w11.heap.size∧_ from ⟨Hb.out.1,Hb.out.2.1.bel (bel.mono (by omega)),Hb.out.2.2⟩)
  have hz1314:=bel.size
  have hQ2:=HE1.out b x w14 Hb.out.1 (Hb.out.2.1.more (by omega)) ((HB.out.2.1.bel HB14.out).more HB14.out.size) (by rw [Hb.out.1];omega)
  unfold vmV at hQ2
  rw [Hb.out.2.2.1,Hb.out.2.2.2,HE.out.1,HE.out.2.1] at hQ2
  have HQ2:=Lib.hid hQ2
  clear bel hQ2
  go_wp2_with fail
  refine HQ2.out.mono ?_
  rintro e w15 ⟨rfl,bel⟩
  have HF:=Lib.hid (below_step (below_step bel HB14.out) HB.out.2.2.2)
  clear bel
  go_wp2
  go_ret
  exact ⟨rfl,HF.out⟩
end Go.Proofs.YteldgdelmaeokaaDoor.FnReplacements
