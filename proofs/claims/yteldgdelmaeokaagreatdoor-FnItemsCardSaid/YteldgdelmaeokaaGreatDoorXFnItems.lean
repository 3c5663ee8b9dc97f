/- The walk of the law FnItems. No condition but those of its argument. -/
import Derived.Test.YteldgdelmaeokaaGreatDoorGdg
import Derived.Test.YteldgdelmaeokaaGreatDoorGdh
import Derived.Test.YteldgdelmaeokaaGreatDoorGrf
import Derived.Test.YteldgdelmaeokaaGreatDoorGre
import Derived.Test.YteldgdelmaeokaaGreatDoorGrg
import Derived.Test.YteldgdelmaeokaaGreatDoorGa
import Derived.IntWalk
import Derived.WalkSpells
import Derived.WalkLawsBesides
import Derived.Deep.RegionHeld3
import Derived.Deep.DeepCutAuto
set_option linter.unusedSimpArgs false
set_option linter.unusedVariables false
set_option maxHeartbeats 8000000
set_option maxRecDepth 100000
namespace Go.Proofs.YteldgdelmaeokaaGreatDoor.FnItems
open Go.Proofs.Tryz Go.RowKit
theorem size_itemsV {X Y:Zt} (h:Y∈X.items):Y.size≤X.size:=by
 cases X with
 |mk n b l=>
  have h1:Y∈l:=h
  have:=Zt.size_le_of_mem h1
  rw [Zt.size_mk]
  omega
theorem Uj {D:List Zk}:∀{t:List ByteArray} {k k':Int} {x y:Zt},Ji D k x t=some (k',y)→y.size≤x.size
 | [],k,k',x,y,hw=> by rw [Vj] at hw;cases hw;exact Nat.le_refl _
 |s::t,k,k',x,y,hw=> by
  rcases Yg D k x.items.length s with e|⟨j,hj,e⟩
  ·rw [Uk (by omega)] at hw;cases hw
  ·rw [Vq e hj] at hw
   exact Nat.le_trans (Uj hw) (size_itemsV (List.getElem_mem hj))
theorem editV_stay {D:List Zk} {x z:Zt} {ok:Bool} {S:List ByteArray} {chg:Int→Zt→Option Zt} (h:Jg D x ok S chg=(z,false)):z=x:=by
 unfold Jg at h
 split at h
 ·split at h
  ·simp at h;exact h.symm
  ·split at h
   ·simp at h;exact h.symm
   ·simp at h
 ·simp at h;exact h.symm
theorem ins_size {D:List Zk} {X P FX:Zt} {at_:Int} {ok:Bool} {S:List ByteArray} {b:Bool} (hp:P.size≤589824) (hx:X.size≤589825) (h:Jg D X ok S (Rv D at_ P)=(FX,b)):FX.size≤1769480:=by
 have:=editV_size (N:=1179650) (fun k y p hw hc=> by
  have h1:=Uj hw
  unfold Rv at hc
  split at hc
  ·unfold My at hc
   split at hc
   ·cases hc
    rw [Lg]
    omega
   ·cases hc
  ·cases hc) h
 omega
theorem ins_items {p u:VM} {P Y:Zt} {n:Nat} (hn:n≤Y.items.length) (hp:p.d=Ta n P Y) (hu:u.d=Y):p.items.length=u.items.length+1∧∃h:n < p.items.length,p.items[n].d=P:=by
 have e1:p.items.map VM.d=Y.items.take n++P::Y.items.drop n:=by rw [←VM.items_d,hp];unfold Ta;simp only [Zt.items_mk]
 have e2:u.items.map VM.d=Y.items:=by rw [←VM.items_d,hu]
 have h1:=congrArg List.length e1
 have h2:=congrArg List.length e2
 rw [List.length_map,(Ox hn).2.2] at h1
 rw [List.length_map] at h2
 have hl:(Y.items.take n).length=n:=by rw [List.length_take];omega
 have hnp:n < p.items.length:=by omega
 refine ⟨by omega,hnp,?_⟩
 have h3:(p.items.map VM.d)[n]?=some P:=by rw [e1,List.getElem?_append_right (by omega),hl,Nat.sub_self];rfl
 rw [List.getElem?_map,List.getElem?_eq_getElem hnp] at h3
 exact Option.some.inj h3
theorem walk (v:Value) (l:List UInt8) (w:World) (h:Xq w w.heap.size v l) (ht:Tab w):
  Calls prog 3 #[v] w fun e w'=> e= .returned (.bool true)∧Below w.heap.size w w':=by
 obtain ⟨A0,c0,rfl,hcc⟩:=h.open_
 clear hcc
 by_cases hbig:1048576 < (l.length:Int)
 ·have HB:=Fd hbig
  clear hbig
  go_enter func3,ntmps3
  go_wp2_with fail
  refine (big_any _ l _ w h).mono ?_
  rintro e w1 ⟨rfl,rfl⟩
  rw [decide_eq_true HB.out]
  go_wp2
  go_ret
  exact ⟨rfl,Below.refl _ _⟩
 have hl:l.length≤1048576:=by omega
 have HT:=Fd ht
 clear hbig ht
 go_enter func3,ntmps3
 go_wp2_with fail
 refine (big_any _ l _ w h).mono ?_
 rintro e w1 ⟨rfl,rfl⟩
 rw [decide_eq_false (show ¬(1048576 < (l.length:Int)) by omega)]
 go_wp2_with fail
 refine (Iw _ l w h hl).mono ?_
 rintro e w1 ⟨A,c,L,x,y,S,a,rfl,hdr,hl1,hl9,hxs,hys,hSs,⟨ha0,ha4⟩,hsd,hxr,hyr,hb1⟩
 have hlm:(L.map RM.d).length=L.length:=List.length_map ..
 have hok:∀r∈L,r.d.ok:=fun r hr=> hdr.ok (by rw [hlm];exact hl9) _ (List.mem_map_of_mem hr)
 have hsm:∀r∈L,r.d.small 1048576:=fun r hr=> hdr.small _ (List.mem_map_of_mem hr)
 obtain ⟨Ax,cx,ex, -⟩:=hxr.bytes.open_
 obtain ⟨Bx,dx,fx, -⟩:=hxr.its.open_
 obtain ⟨Ay,cy,ey, -⟩:=hyr.bytes.open_
 obtain ⟨By,dy,fy, -⟩:=hyr.its.open_
 obtain ⟨Z,ok,hed⟩:∃Z ok,Jg (L.map RM.d) x.d (Qu Zf S) (Yl Zf S) (Rv (L.map RM.d) a y.d)=(Z,ok):=⟨_,_,rfl⟩
 have hZs:Z.size≤1769480:=ins_size hys hxs hed
 have hI:∀W,Below w1.heap.size w1 W→Calls prog 7 #[.agg #[.slice A L.length c],Qr x, .string S, .int .i64 a,Qr y] W (Pa (Vx Z) (.bool ok) W):=fun W hb=> by
  have:=implIns_any _ L x y S a w1.heap.size W (hsd.below hb) hb.size hok hsm (hxr.bel hb) (by omega) (hyr.bel hb) (by omega) (by omega) (Rq HT.out (hb1.trans (hb.mono hb1.size)))
  rwa [hed] at this
 have hSp:∀W,Below w1.heap.size w1 W→Calls prog 8 #[.agg #[.slice A L.length c],Qr x, .string S, .int .i64 a,Qr y] W (Pa (Vx Z) (.bool ok) W):=fun W hb=> by
  have:=specIns_any _ L x y S a w1.heap.size W (hsd.below hb) hb.size hok hsm (hxr.bel hb) (by omega) (hyr.bel hb) (by omega) (by omega)
  rwa [hed] at this
 have HB:=Fd (And.intro hsd (And.intro hxr (And.intro hyr hb1)))
 have HE:=Fd (And.intro ex (And.intro fx (And.intro ey fy)))
 have HOK:=Fd (And.intro hok hsm)
 have HED:=Fd hed
 unfold Qr at hI hSp ⊢
 rw [ex,fx,ey,fy] at hI hSp ⊢
 have HI:=Fd hI
 have HSP:=Fd hSp
 clear hI hSp hsd hxr hyr hb1 ex fx ey fy hok hsm hed hdr h
 obtain ⟨W2,hW2⟩:∃V,V=((w1.alloc (.cells #[.slice A L.length c] 26)).alloc (.cells #[.int .i64 x.n, .slice Ax x.b.length cx, .slice Bx x.items.length dx] 29)).alloc (.cells #[.int .i64 y.n, .slice Ay y.b.length cy, .slice By y.items.length dy] 29):=⟨_,rfl⟩
 have bW2:Below w1.heap.size w1 W2:=by rw [hW2];exact (((Below.refl w1.heap.size w1).alloc (Nat.le_refl _) _).alloc (by simp) _).alloc (by simp;omega) _
 have Kq:=Fd (show Zr W2 (w1.heap.size) 26 #[.slice A L.length c] by rw [hW2];exact ((Zr.new w1 _ _).alloc _).alloc _)
 have Kx:=Fd (show Zr W2 (w1.heap.size+1) 29 #[.int .i64 x.n, .slice Ax x.b.length cx, .slice Bx x.items.length dx] by rw [hW2];have:=(Zr.new (w1.alloc (.cells #[.slice A L.length c] 26)) 29 #[.int .i64 x.n, .slice Ax x.b.length cx, .slice Bx x.items.length dx]).alloc (.cells #[.int .i64 y.n, .slice Ay y.b.length cy, .slice By y.items.length dy] 29);simpa using this)
 have Ky:=Fd (show Zr W2 (w1.heap.size+1+1) 29 #[.int .i64 y.n, .slice Ay y.b.length cy, .slice By y.items.length dy] by rw [hW2];have:=Zr.new ((w1.alloc (.cells #[.slice A L.length c] 26)).alloc (.cells #[.int .i64 x.n, .slice Ax x.b.length cx, .slice Bx x.items.length dx] 29)) 29 #[.int .i64 y.n, .slice Ay y.b.length cy, .slice By y.items.length dy];simpa using this)
 have q0:W2.cell? ⟨w1.heap.size,0,none⟩=some (.slice A L.length c):=Kq.out.cell 0 rfl
 obtain ⟨⟨x0,x1,x2⟩, -⟩:=Kx.out.c3
 obtain ⟨⟨y0,y1,y2⟩, -⟩:=Ky.out.c3
 go_upto_region 4 with fail
 rw [←hW2]
 clear hW2
 have HB2:=Fd bW2
 go_wp2_with fail
 refine (HI.out _ HB2.out).mono ?_
 rintro e w3 ⟨vz,rfl,hz,bel⟩
 clear q0 x0 x1 x2 y0 y1 y2
 have Kq:=Fd (show Zr w3 (w1.heap.size) 26 #[.slice A L.length c] from Kq.out.below bel)
 have Kx:=Fd (show Zr w3 (w1.heap.size+1) 29 #[.int .i64 x.n, .slice Ax x.b.length cx, .slice Bx x.items.length dx] from Kx.out.below bel)
 have Ky:=Fd (show Zr w3 (w1.heap.size+1+1) 29 #[.int .i64 y.n, .slice Ay y.b.length cy, .slice By y.items.length dy] from Ky.out.below bel)
 obtain ⟨z,hzd,rfl,hzo⟩:=hz
 obtain ⟨Az,cz,ez, -⟩:=hzo.own.rd.bytes.open_
 obtain ⟨Bz,dz,fz, -⟩:=hzo.own.rd.its.open_
 have Hz:=Fd (And.intro hzd (And.intro hzo.own.rd (And.intro ez fz)))
 unfold Qr
 rw [ez,fz]
 clear ez fz hzd hzo
 obtain ⟨W4,hW4⟩:∃V,V=w3.alloc (.cells #[.int .i64 z.n, .slice Az z.b.length cz, .slice Bz z.items.length dz] 29):=⟨_,rfl⟩
 have bW4:Below w3.heap.size w3 W4:=by rw [hW4];exact (Below.refl _ _).alloc (Nat.le_refl _) _
 have Kq:=Fd (show Zr W4 (w1.heap.size) 26 #[.slice A L.length c] from Kq.out.below bW4)
 have Kx:=Fd (show Zr W4 (w1.heap.size+1) 29 #[.int .i64 x.n, .slice Ax x.b.length cx, .slice Bx x.items.length dx] from Kx.out.below bW4)
 have Ky:=Fd (show Zr W4 (w1.heap.size+1+1) 29 #[.int .i64 y.n, .slice Ay y.b.length cy, .slice By y.items.length dy] from Ky.out.below bW4)
 have Kz:=Fd (show Zr W4 (w3.heap.size) 29 #[.int .i64 z.n, .slice Az z.b.length cz, .slice Bz z.items.length dz] by rw [hW4];exact Zr.new w3 _ _)
 have hz34:=bW4.size
 have HB4:=Fd (Zb bW4 (Zb bel HB2.out))
 have Hz:=Fd (show z.d=Z∧z.rd W4 w3.heap.size∧_ from ⟨Hz.out.1,Hz.out.2.1.bel bW4,Hz.out.2.2⟩)
 have q0:W4.cell? ⟨w1.heap.size,0,none⟩=some (.slice A L.length c):=Kq.out.cell 0 rfl
 obtain ⟨⟨x0,x1,x2⟩, -⟩:=Kx.out.c3
 obtain ⟨⟨y0,y1,y2⟩, -⟩:=Ky.out.c3
 obtain ⟨⟨z0,z1,z2⟩, -⟩:=Kz.out.c3
 have HW4:=Fd hW4
 clear hW4 bW4 bel HI HB2 bW2
 go_upto_region 5 with fail
 rw [←HW4.out]
 clear HW4
 go_wp2_with fail
 refine (HSP.out _ HB4.out).mono ?_
 rintro e w5 ⟨vz2,rfl,hz2,bel⟩
 obtain ⟨A2,c2,B2,d2,rfl⟩:=hz2.agg
 clear q0 x0 x1 x2 y0 y1 y2 z0 z1 z2
 have Kq:=Fd (show Zr w5 (w1.heap.size) 26 #[.slice A L.length c] from Kq.out.below bel)
 have Kx:=Fd (show Zr w5 (w1.heap.size+1) 29 #[.int .i64 x.n, .slice Ax x.b.length cx, .slice Bx x.items.length dx] from Kx.out.below bel)
 have Ky:=Fd (show Zr w5 (w1.heap.size+1+1) 29 #[.int .i64 y.n, .slice Ay y.b.length cy, .slice By y.items.length dy] from Ky.out.below bel)
 have Kz:=Fd (show Zr w5 (w3.heap.size) 29 #[.int .i64 z.n, .slice Az z.b.length cz, .slice Bz z.items.length dz] from Kz.out.below bel)
 obtain ⟨W6,hW6⟩:∃V,V=w5.alloc (.cells #[.int .i64 Z.n, .slice A2 Z.b.length c2, .slice B2 Z.items.length d2] 29):=⟨_,rfl⟩
 have bW6:Below w5.heap.size w5 W6:=by rw [hW6];exact (Below.refl _ _).alloc (Nat.le_refl _) _
 have Kq:=Fd (show Zr W6 (w1.heap.size) 26 #[.slice A L.length c] from Kq.out.below bW6)
 have Kx:=Fd (show Zr W6 (w1.heap.size+1) 29 #[.int .i64 x.n, .slice Ax x.b.length cx, .slice Bx x.items.length dx] from Kx.out.below bW6)
 have Ky:=Fd (show Zr W6 (w1.heap.size+1+1) 29 #[.int .i64 y.n, .slice Ay y.b.length cy, .slice By y.items.length dy] from Ky.out.below bW6)
 have Kz:=Fd (show Zr W6 (w3.heap.size) 29 #[.int .i64 z.n, .slice Az z.b.length cz, .slice Bz z.items.length dz] from Kz.out.below bW6)
 have HB6:=Fd (Zb bW6 (Zb bel HB4.out))
 have Hz:=Fd (show z.d=Z∧z.rd W6 w3.heap.size∧_ from ⟨Hz.out.1,(Hz.out.2.1.bel (bel.mono hz34)).bel (bW6.mono (by have:=bel.size;omega)),Hz.out.2.2⟩)
 have hz36:w3.heap.size≤W6.heap.size:=by have:=bel.size;have:=bW6.size;omega
 have q0:W6.cell? ⟨w1.heap.size,0,none⟩=some (.slice A L.length c):=Kq.out.cell 0 rfl
 obtain ⟨⟨x0,x1,x2⟩, -⟩:=Kx.out.c3
 obtain ⟨⟨y0,y1,y2⟩, -⟩:=Ky.out.c3
 obtain ⟨⟨z0,z1,z2⟩, -⟩:=Kz.out.c3
 have HW6:=Fd hW6
 clear hW6 bW6 bel HSP HB4 hz2
 cases ok with
 |false=>
  have hst:=editV_stay HED.out
  have hE:Calls prog 9 #[Qr z,Qr x] W6 fun e w'=> e= .returned (.bool true)∧Below W6.heap.size W6 w':=
   Lp z x W6.heap.size W6 (by rw [Hz.out.1,hst]) (Hz.out.2.1.more (by omega)) ((HB.out.2.1.bel HB6.out).more HB6.out.size) (Nat.le_refl _) (by rw [Hz.out.1];omega)
  unfold Qr at hE
  rw [Hz.out.2.2.1,Hz.out.2.2.2,HE.out.1,HE.out.2.1] at hE
  have HEQ:=Fd hE
  clear hE hst
  go_upto_region 9 with fail
  rw [←HW6.out]
  clear HW6
  go_wp2_with fail
  refine HEQ.out.mono ?_
  rintro e w7 ⟨rfl,bel⟩
  have HF:=Fd (Zb (Zb bel HB6.out) HB.out.2.2.2)
  clear bel
  go_wp2
  go_ret
  exact ⟨rfl,HF.out⟩
 |true=>
  obtain ⟨k,Y,ha,haY,hf1,hf2,hed2, -⟩:=insV_back HED.out
  have hYs:Y.size≤589825:=Nat.le_trans (Uj (Tp hf1).2) hxs
  have hF1:∀W,Below W6.heap.size W6 W→Calls prog 10 #[.agg #[.slice A L.length c],Qr z, .string S] W (Lz (Ta a.toNat y.d Y,k,true) W):=fun W hb=> by
   have hb1:=Zb hb HB6.out
   have:=Xr _ L z S W6.heap.size W ((HB.out.1.below hb1).more HB6.out.size) hb.size HOK.out.1 HOK.out.2 ((Hz.out.2.1.more hz36).bel hb) (by rw [Hz.out.1];omega) (by omega)
   rw [Hz.out.1] at this
   rwa [hf2] at this
  have hF2:∀W,Below W6.heap.size W6 W→Calls prog 10 #[.agg #[.slice A L.length c],Qr x, .string S] W (Lz (Y,k,true) W):=fun W hb=> by
   have hb1:=Zb hb HB6.out
   have:=Xr _ L x S w1.heap.size W (HB.out.1.below hb1) hb1.size HOK.out.1 HOK.out.2 (HB.out.2.1.bel hb1) (by omega) (by omega)
   rwa [hf1] at this
  have hR:∀W,Below W6.heap.size W6 W→Calls prog 11 #[.agg #[.slice A L.length c],Qr z, .string S, .int .i64 a] W (Pa (Vx x.d) (.bool true) W):=fun W hb=> by
   have hb1:=Zb hb HB6.out
   have:=implRem_any _ L z S a W.heap.size W ((HB.out.1.below hb1).more hb1.size) (Nat.le_refl _) HOK.out.1 HOK.out.2 (((Hz.out.2.1.more hz36).bel hb).more hb.size) (by rw [Hz.out.1];omega) (by unfold Qa;omega) (by omega) (Rq HT.out (HB.out.2.2.2.trans (hb1.mono HB.out.2.2.2.size)))
   rw [Hz.out.1] at this
   rwa [hed2] at this
  have hE1:∀(u:VM) (U:VM) W,u.d=U.d→u.rd W W.heap.size→U.rd W W.heap.size→u.d.size≤4194304→Calls prog 9 #[Qr u,Qr U] W fun e w'=> e= .returned (.bool true)∧Below W.heap.size W w':=fun u U W hu h1 h2 h3=> Lp u U W.heap.size W hu h1 h2 (Nat.le_refl _) h3
  have HAY:=Fd (And.intro ha haY)
  have HE1:=Fd hE1
  unfold Qr at hF1 hF2 hR
  rw [Hz.out.2.2.1,Hz.out.2.2.2] at hF1 hR
  rw [HE.out.1,HE.out.2.1] at hF2
  have HF1:=Fd hF1
  have HF2:=Fd hF2
  have HR1:=Fd hR
  clear hF1 hF2 hR hE1 hf1 hf2 hed2 ha haY
  go_upto_region 10 with fail
  rw [←HW6.out]
  clear HW6
  go_wp2_with fail
  refine (HF1.out W6 (Below.refl _ _)).mono ?_
  rintro e w7 ⟨vp,rfl,hp,bel⟩
  dsimp only at hp ⊢
  clear q0 x0 x1 x2 y0 y1 y2 z0 z1 z2
  have Kq:=Fd (show Zr w7 (w1.heap.size) 26 #[.slice A L.length c] from Kq.out.below bel)
  have Kx:=Fd (show Zr w7 (w1.heap.size+1) 29 #[.int .i64 x.n, .slice Ax x.b.length cx, .slice Bx x.items.length dx] from Kx.out.below bel)
  have Ky:=Fd (show Zr w7 (w1.heap.size+1+1) 29 #[.int .i64 y.n, .slice Ay y.b.length cy, .slice By y.items.length dy] from Ky.out.below bel)
  have Kz:=Fd (show Zr w7 (w3.heap.size) 29 #[.int .i64 z.n, .slice Az z.b.length cz, .slice Bz z.items.length dz] from Kz.out.below bel)
  obtain ⟨p,hpd,rfl,hpo⟩:=hp
  obtain ⟨Ap,cp,ep, -⟩:=hpo.own.rd.bytes.open_
  obtain ⟨Bp,dp,fp, -⟩:=hpo.own.rd.its.open_
  have Hp:=Fd (And.intro hpd (And.intro hpo.own.rd (And.intro ep fp)))
  unfold Qr
  rw [ep,fp]
  clear ep fp hpd hpo
  obtain ⟨W8,hW8⟩:∃V,V=w7.alloc (.cells #[.int .i64 p.n, .slice Ap p.b.length cp, .slice Bp p.items.length dp] 29):=⟨_,rfl⟩
  have bW8:Below w7.heap.size w7 W8:=by rw [hW8];exact (Below.refl _ _).alloc (Nat.le_refl _) _
  have Kq:=Fd (show Zr W8 (w1.heap.size) 26 #[.slice A L.length c] from Kq.out.below bW8)
  have Kx:=Fd (show Zr W8 (w1.heap.size+1) 29 #[.int .i64 x.n, .slice Ax x.b.length cx, .slice Bx x.items.length dx] from Kx.out.below bW8)
  have Ky:=Fd (show Zr W8 (w1.heap.size+1+1) 29 #[.int .i64 y.n, .slice Ay y.b.length cy, .slice By y.items.length dy] from Ky.out.below bW8)
  have Kz:=Fd (show Zr W8 (w3.heap.size) 29 #[.int .i64 z.n, .slice Az z.b.length cz, .slice Bz z.items.length dz] from Kz.out.below bW8)
  have Kp:=Fd (show Zr W8 (w7.heap.size) 29 #[.int .i64 p.n, .slice Ap p.b.length cp, .slice Bp p.items.length dp] by rw [hW8];exact Zr.new w7 _ _)
  have HB8:=Fd (Zb bW8 bel)
  have Hp:=Fd (show p.d=Ta a.toNat y.d Y∧p.rd W8 w7.heap.size∧_ from ⟨Hp.out.1,Hp.out.2.1.bel bW8,Hp.out.2.2⟩)
  have hz78:=bW8.size
  have q0:W8.cell? ⟨w1.heap.size,0,none⟩=some (.slice A L.length c):=Kq.out.cell 0 rfl
  obtain ⟨⟨x0,x1,x2⟩, -⟩:=Kx.out.c3
  obtain ⟨⟨y0,y1,y2⟩, -⟩:=Ky.out.c3
  obtain ⟨⟨z0,z1,z2⟩, -⟩:=Kz.out.c3
  obtain ⟨⟨p0,p1,p2⟩, -⟩:=Kp.out.c3
  have HW8:=Fd hW8
  clear hW8 bW8 bel HF1
  go_upto_region 11 with fail
  rw [←HW8.out]
  clear HW8
  go_wp2_with fail
  refine (HF2.out W8 HB8.out).mono ?_
  rintro e w9 ⟨vu,rfl,hu,bel⟩
  dsimp only at hu ⊢
  clear q0 x0 x1 x2 y0 y1 y2 z0 z1 z2 p0 p1 p2
  have Kq:=Fd (show Zr w9 (w1.heap.size) 26 #[.slice A L.length c] from Kq.out.below bel)
  have Kx:=Fd (show Zr w9 (w1.heap.size+1) 29 #[.int .i64 x.n, .slice Ax x.b.length cx, .slice Bx x.items.length dx] from Kx.out.below bel)
  have Ky:=Fd (show Zr w9 (w1.heap.size+1+1) 29 #[.int .i64 y.n, .slice Ay y.b.length cy, .slice By y.items.length dy] from Ky.out.below bel)
  have Kz:=Fd (show Zr w9 (w3.heap.size) 29 #[.int .i64 z.n, .slice Az z.b.length cz, .slice Bz z.items.length dz] from Kz.out.below bel)
  have Kp:=Fd (show Zr w9 (w7.heap.size) 29 #[.int .i64 p.n, .slice Ap p.b.length cp, .slice Bp p.items.length dp] from Kp.out.below bel)
  obtain ⟨u,hud,rfl,huo⟩:=hu
  obtain ⟨Au,cu,eu, -⟩:=huo.own.rd.bytes.open_
  obtain ⟨Bu,du,fu, -⟩:=huo.own.rd.its.open_
  have Hu:=Fd (And.intro hud (And.intro huo.own.rd (And.intro eu fu)))
  unfold Qr
  rw [eu,fu]
  clear eu fu hud huo
  obtain ⟨W10,hW10⟩:∃V,V=w9.alloc (.cells #[.int .i64 u.n, .slice Au u.b.length cu, .slice Bu u.items.length du] 29):=⟨_,rfl⟩
  have bW10:Below w9.heap.size w9 W10:=by rw [hW10];exact (Below.refl _ _).alloc (Nat.le_refl _) _
  have Kq:=Fd (show Zr W10 (w1.heap.size) 26 #[.slice A L.length c] from Kq.out.below bW10)
  have Kx:=Fd (show Zr W10 (w1.heap.size+1) 29 #[.int .i64 x.n, .slice Ax x.b.length cx, .slice Bx x.items.length dx] from Kx.out.below bW10)
  have Ky:=Fd (show Zr W10 (w1.heap.size+1+1) 29 #[.int .i64 y.n, .slice Ay y.b.length cy, .slice By y.items.length dy] from Ky.out.below bW10)
  have Kz:=Fd (show Zr W10 (w3.heap.size) 29 #[.int .i64 z.n, .slice Az z.b.length cz, .slice Bz z.items.length dz] from Kz.out.below bW10)
  have Kp:=Fd (show Zr W10 (w7.heap.size) 29 #[.int .i64 p.n, .slice Ap p.b.length cp, .slice Bp p.items.length dp] from Kp.out.below bW10)
  have Ku:=Fd (show Zr W10 (w9.heap.size) 29 #[.int .i64 u.n, .slice Au u.b.length cu, .slice Bu u.items.length du] by rw [hW10];exact Zr.new w9 _ _)
  have HB10:=Fd (Zb bW10 (Zb bel HB8.out))
  have Hu:=Fd (show u.d=Y∧u.rd W10 w9.heap.size∧_ from ⟨Hu.out.1,Hu.out.2.1.bel bW10,Hu.out.2.2⟩)
  have hz910:=bW10.size
  have hz89:=bel.size
  have Hp:=Fd (show p.d=Ta a.toNat y.d Y∧p.rd W10 w7.heap.size∧_ from ⟨Hp.out.1,(Hp.out.2.1.bel (bel.mono hz78)).bel (bW10.mono (by omega)),Hp.out.2.2⟩)
  have q0:W10.cell? ⟨w1.heap.size,0,none⟩=some (.slice A L.length c):=Kq.out.cell 0 rfl
  obtain ⟨⟨x0,x1,x2⟩, -⟩:=Kx.out.c3
  obtain ⟨⟨y0,y1,y2⟩, -⟩:=Ky.out.c3
  obtain ⟨⟨z0,z1,z2⟩, -⟩:=Kz.out.c3
  obtain ⟨⟨p0,p1,p2⟩, -⟩:=Kp.out.c3
  obtain ⟨⟨u0,u1,u2⟩, -⟩:=Ku.out.c3
  have HW10:=Fd hW10
  clear hW10 bW10 bel HF2
  go_upto_region 12 with fail
  rw [←HW10.out]
  clear HW10
  go_wp2_with fail
  refine (HR1.out W10 HB10.out).mono ?_
  rintro e w11 ⟨vb,rfl,hb,bel⟩
  clear q0 x0 x1 x2 y0 y1 y2 z0 z1 z2 p0 p1 p2 u0 u1 u2
  have Kq:=Fd (show Zr w11 (w1.heap.size) 26 #[.slice A L.length c] from Kq.out.below bel)
  have Kx:=Fd (show Zr w11 (w1.heap.size+1) 29 #[.int .i64 x.n, .slice Ax x.b.length cx, .slice Bx x.items.length dx] from Kx.out.below bel)
  have Ky:=Fd (show Zr w11 (w1.heap.size+1+1) 29 #[.int .i64 y.n, .slice Ay y.b.length cy, .slice By y.items.length dy] from Ky.out.below bel)
  have Kz:=Fd (show Zr w11 (w3.heap.size) 29 #[.int .i64 z.n, .slice Az z.b.length cz, .slice Bz z.items.length dz] from Kz.out.below bel)
  have Kp:=Fd (show Zr w11 (w7.heap.size) 29 #[.int .i64 p.n, .slice Ap p.b.length cp, .slice Bp p.items.length dp] from Kp.out.below bel)
  have Ku:=Fd (show Zr w11 (w9.heap.size) 29 #[.int .i64 u.n, .slice Au u.b.length cu, .slice Bu u.items.length du] from Ku.out.below bel)
  obtain ⟨b,hbd,rfl,hbo⟩:=hb
  obtain ⟨Ab,cb,eb, -⟩:=hbo.own.rd.bytes.open_
  obtain ⟨Bb,db,fb, -⟩:=hbo.own.rd.its.open_
  have Hb:=Fd (And.intro hbd (And.intro hbo.own.rd (And.intro eb fb)))
  unfold Qr
  rw [eb,fb]
  clear eb fb hbd hbo
  obtain ⟨W12,hW12⟩:∃V,V=w11.alloc (.cells #[.int .i64 b.n, .slice Ab b.b.length cb, .slice Bb b.items.length db] 29):=⟨_,rfl⟩
  have bW12:Below w11.heap.size w11 W12:=by rw [hW12];exact (Below.refl _ _).alloc (Nat.le_refl _) _
  have Kq:=Fd (show Zr W12 (w1.heap.size) 26 #[.slice A L.length c] from Kq.out.below bW12)
  have Kx:=Fd (show Zr W12 (w1.heap.size+1) 29 #[.int .i64 x.n, .slice Ax x.b.length cx, .slice Bx x.items.length dx] from Kx.out.below bW12)
  have Ky:=Fd (show Zr W12 (w1.heap.size+1+1) 29 #[.int .i64 y.n, .slice Ay y.b.length cy, .slice By y.items.length dy] from Ky.out.below bW12)
  have Kz:=Fd (show Zr W12 (w3.heap.size) 29 #[.int .i64 z.n, .slice Az z.b.length cz, .slice Bz z.items.length dz] from Kz.out.below bW12)
  have Kp:=Fd (show Zr W12 (w7.heap.size) 29 #[.int .i64 p.n, .slice Ap p.b.length cp, .slice Bp p.items.length dp] from Kp.out.below bW12)
  have Ku:=Fd (show Zr W12 (w9.heap.size) 29 #[.int .i64 u.n, .slice Au u.b.length cu, .slice Bu u.items.length du] from Ku.out.below bW12)
  have Kb:=Fd (show Zr W12 (w11.heap.size) 29 #[.int .i64 b.n, .slice Ab b.b.length cb, .slice Bb b.items.length db] by rw [hW12];exact Zr.new w11 _ _)
  have HB12:=Fd (Zb bW12 (Zb bel HB10.out))
  have hz1112:=bW12.size
  have hz1011:=bel.size
  have Hb:=Fd (show b.d=x.d∧b.rd W12 w11.heap.size∧_ from ⟨Hb.out.1,Hb.out.2.1.bel bW12,Hb.out.2.2⟩)
  have Hp:=Fd (show p.d=Ta a.toNat y.d Y∧p.rd W12 w7.heap.size∧_ from ⟨Hp.out.1,(Hp.out.2.1.bel (bel.mono (by omega))).bel (bW12.mono (by omega)),Hp.out.2.2⟩)
  have HB1:=Fd (Zb HB12.out HB6.out)
  obtain ⟨n,hn⟩:=Int.eq_ofNat_of_zero_le HAY.out.1
  have hnY:n≤Y.items.length:=by have:=HAY.out.2;rw [hn] at this;exact this
  have Hp:=Fd (show p.d=Ta n y.d Y∧p.rd W12 w7.heap.size∧_ from ⟨by rw [Hp.out.1,hn];rfl,Hp.out.2⟩)
  subst hn
  obtain ⟨hpl,hnl,hpn⟩:=ins_items hnY Hp.out.1 Hu.out.1
  have hul:u.items.length≤589825:=by have:=VM.size_d u;rw [Hu.out.1] at this;have:=Zt.length_le (u.items.map VM.d);rw [List.length_map] at this;omega
  have hpi:=Hp.out.2.1.its
  obtain ⟨P1,g1,P2,g2,ev1,ev2, -⟩:=hpi.at_ n hnl
  have hpr:=hpi.2 _ (List.getElem_mem hnl)
  rw [Hp.out.2.2.2] at hpi
  obtain ⟨A3,c3,hA3, -, -,hc3⟩:=hpi.open_
  obtain ⟨bi,fi,rfl,hbi,p0',p1',p2'⟩:=hc3 n hnl
  injection hA3 with hA3 hA4 hA5
  rw [ev1] at p1'
  rw [ev2] at p2'
  have hp2:W12.cell? ⟨w7.heap.size,2,none⟩=some (.slice (some ⟨bi,fi,none⟩) (u.items.length+1) dp):=by rw [←hA3,←hpl];exact Kp.out.cell 2 rfl
  have hpy:=HE1.out p.items[n] y
  have hQ1:∀W,Below W12.heap.size W12 W→Calls prog 9 #[.agg #[.int .i64 p.items[n].n, .slice P1 p.items[n].b.length g1, .slice P2 p.items[n].items.length g2], .agg #[.int .i64 y.n, .slice Ay y.b.length cy, .slice By y.items.length dy]] W fun e w'=> e= .returned (.bool true)∧Below W.heap.size W w':=fun W hb=> by
   have h1:=Zb hb HB1.out
   have hbs:=hb.size
   have:=hpy W hpn ((hpr.bel (hb.mono (by omega))).more (by omega)) ((HB.out.2.2.1.bel h1).more h1.size) (by rw [hpn];omega)
   unfold Qr at this
   rw [ev1,ev2,HE.out.2.2.1,HE.out.2.2.2] at this
   exact this
  have hQ2:∀W,Below W12.heap.size W12 W→Calls prog 9 #[.agg #[.int .i64 b.n, .slice Ab b.b.length cb, .slice Bb b.items.length db], .agg #[.int .i64 x.n, .slice Ax x.b.length cx, .slice Bx x.items.length dx]] W fun e w'=> e= .returned (.bool true)∧Below W.heap.size W w':=fun W hb=> by
   have h1:=Zb hb HB1.out
   have hbs:=hb.size
   have:=HE1.out b x W Hb.out.1 ((Hb.out.2.1.bel (hb.mono (by omega))).more (by omega)) ((HB.out.2.1.bel h1).more h1.size) (by rw [Hb.out.1];omega)
   unfold Qr at this
   rw [Hb.out.2.2.1,Hb.out.2.2.2,HE.out.1,HE.out.2.1] at this
   exact this
  have HQ1:=Fd hQ1
  have HQ2:=Fd hQ2
  generalize p.items[n]=pn at*
  have hnu:n < u.items.length+1:=by omega
  clear hpi hpr hpy hQ1 hQ2 hc3 hA3 hA4 hA5 ev1 ev2 hpn hpl hnl
  have hu2:W12.cell? ⟨w9.heap.size,2,none⟩=some (.slice Bu u.items.length du):=Ku.out.cell 2 rfl
  obtain ⟨⟨y0,y1,y2⟩, -⟩:=Ky.out.c3
  obtain ⟨⟨b0,b1,b2⟩, -⟩:=Kb.out.c3
  obtain ⟨⟨x0,x1,x2⟩, -⟩:=Kx.out.c3
  have HW12:=Fd hW12
  clear hW12 bW12 bel HR1 Kq Kx Ky Kz Kp Ku Kb Hp Hu Hz
  go_upto_region 13 with fail
  rw [←HW12.out]
  clear HW12
  have hlw:IntKind.i64.wrap ((u.items.length:Int)+1)=(u.items.length:Int)+1:=IntWalk.i64_in _ (by omega)
  have hlq:((u.items.length:Int)+1==(u.items.length:Int)+1)=true:=by simp
  have hni:(n:Int) < (u.items.length:Int)+1:=by omega
  have bq:=(Below.refl W12.heap.size W12).drew
  go_wp2_with fail
  refine wp_region_held_drew (S:=(fun w0=> w0.cell? ⟨w7.heap.size,2,none⟩=some (.slice (some ⟨bi,fi,none⟩) (u.items.length+1) dp)∧w0.cell? ⟨w9.heap.size,2,none⟩=some (.slice Bu u.items.length du)∧w0.cell? ⟨bi,fi+n*3,none⟩=some (.int .i64 pn.n)∧w0.cell? ⟨bi,fi+n*3+1,none⟩=some (.slice P1 pn.b.length g1)∧w0.cell? ⟨bi,fi+n*3+2,none⟩=some (.slice P2 pn.items.length g2)∧w0.cell? ⟨w1.heap.size+1+1,0,none⟩=some (.int .i64 y.n)∧w0.cell? ⟨w1.heap.size+1+1,1,none⟩=some (.slice Ay y.b.length cy)∧w0.cell? ⟨w1.heap.size+1+1,2,none⟩=some (.slice By y.items.length dy)∧w0.cell? ⟨w11.heap.size,0,none⟩=some (.int .i64 b.n)∧w0.cell? ⟨w11.heap.size,1,none⟩=some (.slice Ab b.b.length cb)∧w0.cell? ⟨w11.heap.size,2,none⟩=some (.slice Bb b.items.length db)∧w0.cell? ⟨w1.heap.size+1,0,none⟩=some (.int .i64 x.n)∧w0.cell? ⟨w1.heap.size+1,1,none⟩=some (.slice Ax x.b.length cx)∧w0.cell? ⟨w1.heap.size+1,2,none⟩=some (.slice Bx x.items.length dx))) (by kernel_rfl) ?_ (fun hHeld=> ?_)
  ·(try dsimp only);exact ⟨hp2,hu2,p0',p1',p2',y0,y1,y2,b0,b1,b2,x0,x1,x2⟩
  refine Za 0 (some 80) hHeld _ ?_;try go_frame
  refine Za 1 (some 81) hHeld _ ?_;try go_frame
  refine Za 2 (some 82) hHeld _ ?_;try go_frame
  refine Za 3 (some 83) hHeld _ ?_;try go_frame
  refine Za 4 (some 84) hHeld _ ?_;try go_frame
  refine Za 5 (some 85) hHeld _ ?_;try go_frame
  refine Za 6 (some 86) hHeld _ ?_;try go_frame
  refine Za 7 (some 87) hHeld _ ?_;try go_frame
  refine Za 8 (some 88) hHeld _ ?_;try go_frame
  refine Za 9 (some 89) hHeld _ ?_;try go_frame
  refine Za 10 (some 90) hHeld _ ?_;try go_frame
  refine Za 11 (some 91) hHeld _ ?_;try go_frame
  refine Za 12 (some 92) hHeld _ ?_;try go_frame
  refine Za 13 (some 93) hHeld _ ?_;try go_frame
  refine Za 14 (some 94) hHeld _ ?_;try go_frame
  refine Zi 15 (fun K hK=> ?_)
  go_simp
  refine (HQ1.out _ bq).mono ?_;rintro e w13 ⟨rfl,bel⟩;have bq:=Zb bel bq
  (try go_wp2_with fail)
  refine hK.out _ _ ?_ (fun hHeld=> ?_)
  ·(try dsimp only);exact ⟨cell_later bq hp2,cell_later bq hu2,cell_later bq p0',cell_later bq p1',cell_later bq p2',cell_later bq y0,cell_later bq y1,cell_later bq y2,cell_later bq b0,cell_later bq b1,cell_later bq b2,cell_later bq x0,cell_later bq x1,cell_later bq x2⟩
  clear hK K
  try go_frame
  refine Za 16 (some 96) hHeld _ ?_;try go_frame
  refine Za 17 (some 97) hHeld _ ?_;try go_frame
  refine Za 18 (some 98) hHeld _ ?_;try go_frame
  refine Za 19 (some 99) hHeld _ ?_;try go_frame
  refine Za 20 (some 100) hHeld _ ?_;try go_frame
  refine Za 21 (some 101) hHeld _ ?_;try go_frame
  refine Za 22 (some 102) hHeld _ ?_;try go_frame
  refine Zi 23 (fun K hK=> ?_)
  go_simp
  refine (HQ2.out _ bq).mono ?_;rintro e w14 ⟨rfl,bel2⟩;have bq:=Zb bel2 bq
  (try go_wp2_with fail)
  refine hK.out _ _ ?_ (fun hHeld=> ?_)
  ·(try dsimp only);exact ⟨cell_later bq hp2,cell_later bq hu2,cell_later bq p0',cell_later bq p1',cell_later bq p2',cell_later bq y0,cell_later bq y1,cell_later bq y2,cell_later bq b0,cell_later bq b1,cell_later bq b2,cell_later bq x0,cell_later bq x1,cell_later bq x2⟩
  clear hK K
  try go_frame
  refine Za 24 (some 104) hHeld _ ?_;try go_frame
  refine Za 25 (some 2) hHeld _ ?_;try go_frame
  refine wpAnyH_done (by kernel_rfl) ?_ _
  have HF:=Fd (Zb (Zb bq HB1.out) HB.out.2.2.2)
  clear hp2 hu2 p0' p1' p2' y0 y1 y2 b0 b1 b2 x0 x1 x2 bq hHeld
  go_wp2
  go_ret
  exact ⟨rfl,HF.out⟩
end Go.Proofs.YteldgdelmaeokaaGreatDoor.FnItems
