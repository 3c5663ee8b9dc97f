/- The walk of the law FnAlternatives. No condition but those of its argument. -/
import Derived.Test.YteldgdelmaeokaaGreatDoorGdg
import Derived.Test.YteldgdelmaeokaaGreatDoorGdh
import Derived.Test.YteldgdelmaeokaaGreatDoorGsd
import Derived.Test.YteldgdelmaeokaaGreatDoorGsc
import Derived.Test.YteldgdelmaeokaaGreatDoorGa
import Derived.IntWalk
import Derived.WalkSpells
import Derived.WalkLawsBesides
import Derived.Deep.RegionHeld3
import Derived.Deep.DeepCutAuto
set_option linter.unusedSimpArgs false
set_option linter.unusedVariables false
set_option maxHeartbeats 8000000
set_option maxRecDepth 100000
namespace Go.Proofs.YteldgdelmaeokaaGreatDoor.FnAlternatives
open Go.Proofs.Tryz Go.RowKit
theorem kind_rng {D:List Zi} {k kd:Int} (h:Xj D k kd=true):∃q:Nat,∃hq:q < D.length,k=q∧D[q].kind=kd:=by
 by_cases h0:0≤k
 ·by_cases h1:k < D.length
  ·obtain ⟨q,hq,rfl, -⟩:=Yd (D:=D) h0 h1
   rw [Xr hq,decide_eq_true_eq] at h
   exact ⟨q,hq,rfl,h⟩
  ·unfold Xj Jo at h
   rw [if_pos h0,List.getElem?_eq_none (by omega)] at h
   cases h
 ·unfold Xj Jo at h
  rw [if_neg h0] at h
  cases h
theorem editV_stay {D:List Zi} {x z:Zv} {ok:Bool} {S:List ByteArray} {chg:Int→Zv→Option Zv} (h:Qv D x ok S chg=(z,false)):z=x:=by
 unfold Qv at h
 split at h
 ·split at h
  ·simp at h;exact h.symm
  ·split at h
   ·simp at h;exact h.symm
   ·simp at h
 ·simp at h;exact h.symm
section
variable {D:List Zi} (hR:∀k (hk:k < D.length),Lk D k hk) (h9:D.length≤9) {x z:Zv} {ok b:Bool} {S:List ByteArray}
include hR h9
theorem sel_size {tag:Int} (hx:x.size≤589825) (h:Qv D x ok S (Vd D tag)=(z,b)):z.size≤1769480:=by
 have:=Iz (N:=589824) (fun k y p _ hc=> by
  have hc2:=hc
  unfold Vd at hc2
  split at hc2
  ·rename_i hi
   rw [Bool.and_eq_true] at hi
   obtain ⟨q,hq,rfl, -⟩:=kind_rng hi.1
   exact (Fe hR h9 hq hc).2.2.2
  ·cases hc2) h
 omega
theorem opt_size {pr:Bool} (hx:x.size≤589825) (h:Qv D x ok S (Uf D pr)=(z,b)):z.size≤1769480:=by
 have:=Iz (N:=1179650) (fun k y p hw hc=> by
  have h1:=Km hw
  unfold Uf at hc
  split at hc
  ·rename_i hi
   obtain ⟨q,hq,rfl,hkd⟩:=kind_rng hi
   cases hc
   obtain ⟨h2, -⟩:=val8 (hR q hq) hkd
   obtain ⟨r,hr,hrq⟩:=(hR q hq).kidN h2
   have h3:(kidK D q).toNat=r:=by rw [Mh hq,Jb _ _ h2,hr,Int.toNat_natCast]
   have h4:=Nat.le_trans (Fp hR r (by omega)).2 (sB_bd (by omega))
   have h6:y.size=y.b.length+Zv.sizes y.items:=(congrArg Zv.size (Zv.eta y)).trans (Zv.size_mk _ _ _)
   unfold Ts
   cases pr with
   |false=> rw [if_neg Bool.false_ne_true,Zv.size_mk,Zv.sizes_nil];omega
   |true=>
    rw [if_pos rfl]
    by_cases h5:y.items.length=0
    ·rw [if_pos h5,Zv.size_mk,Zv.sizes_cons,Zv.sizes_nil,h3];omega
    ·rw [if_neg h5];omega
  ·cases hc) h
 omega
end
theorem walk (v:Value) (l:List UInt8) (w:World) (h:Xu w w.heap.size v l) (ht:Tab w):
  Calls prog 4 #[v] w fun e w'=> e= .returned (.bool true)∧Below w.heap.size w w':=by
 obtain ⟨A0,c0,rfl,hcc⟩:=h.open_
 clear hcc
 by_cases hbig:1048576 < (l.length:Int)
 ·have HB:=Fs hbig
  clear hbig
  go_enter func4,ntmps4
  go_wp2_with fail
  refine (big_any _ l _ w h).mono ?_
  rintro e w1 ⟨rfl,rfl⟩
  rw [Fy HB.out]
  go_wp2
  go_ret
  exact ⟨rfl,Fv _ _⟩
 have hl:l.length≤1048576:=by omega
 have HT:=Fs ht
 have HH:=Fs h
 clear hbig ht
 go_enter func4,ntmps4
 go_wp2_with fail
 refine (big_any _ l _ w h).mono ?_
 rintro e w1 ⟨rfl,rfl⟩
 rw [Fx (show ¬(1048576 < (l.length:Int)) by omega)]
 go_wp2_with fail
 refine (Ha _ l w h hl).mono ?_
 clear h
 rintro e w1 ⟨A,c,L,x,S,av,rfl,⟨tag,rfl⟩,hdr,hl1,hl9,hxs,hSs,hsd,hxr,hbw⟩
 have hlm:(L.map RM.d).length=L.length:=List.length_map ..
 have hok:∀r∈L,r.d.ok:=fun r hr=> hdr.ok (by rw [hlm];exact hl9) _ (List.mem_map_of_mem hr)
 have hsm:∀r∈L,r.d.small 1048576:=fun r hr=> hdr.small _ (List.mem_map_of_mem hr)
 have hR:∀k (hk:k < (L.map RM.d).length),Lk (L.map RM.d) k hk:=fun k hk=> hdr.ruK (by rw [hlm];exact hl9) hk
 obtain ⟨Ax,cx,ex, -⟩:=hxr.bytes.open_
 obtain ⟨Bx,dx,fx, -⟩:=hxr.its.open_
 obtain ⟨Z,ok,hed⟩:∃Z ok,Qv (L.map RM.d) x.d (Qt Zf S) (Yr Zf S) (Vd (L.map RM.d) tag)=(Z,ok):=⟨_,_,rfl⟩
 have hZs:Z.size≤1769480:=sel_size hR (by rw [hlm];exact hl9) hxs hed
 have hI:∀(u:VM) W,Below w1.heap.size w1 W→u.d.size≤2097152→u.rd W W.heap.size→Calls prog 13 #[.agg #[.slice A L.length c],Qs u, .string S, .int .i64 tag] W (Uw (Ue (Qv (L.map RM.d) u.d (Qt Zf S) (Yr Zf S) (Vd (L.map RM.d) tag)).1) (.bool (Qv (L.map RM.d) u.d (Qt Zf S) (Yr Zf S) (Vd (L.map RM.d) tag)).2) W):=fun u W hb hus hur=>
  implSel_any _ L u S tag W.heap.size W ((hsd.below hb).more hb.size) (Fu _) hok hsm hur hus hdr hl9 (by omega) (Pb HT.out (hbw.trans (hb.mono hbw.size)))
 have hSp:∀W,Below w1.heap.size w1 W→Calls prog 14 #[.agg #[.slice A L.length c],Qs x, .string S, .int .i64 tag] W (Uw (Ue Z) (.bool ok) W):=fun W hb=> by
  have:=specSel_any _ L x S tag w1.heap.size W (hsd.below hb) hb.size hok hsm hdr hl9 (hxr.bel hb) (by omega) (by omega)
  rwa [hed] at this
 have hIx:∀W,Below w1.heap.size w1 W→Calls prog 13 #[.agg #[.slice A L.length c],Qs x, .string S, .int .i64 tag] W (Uw (Ue Z) (.bool ok) W):=fun W hb=> by
  have:=hI x W hb (by omega) ((hxr.bel hb).more hb.size)
  rwa [hed] at this
 have HB:=Fs (Ft hsd (Ft hxr hbw))
 have HE:=Fs (Ft ex fx)
 have HOK:=Fs (Ft hok hsm)
 have HED:=Fs hed
 have HRR:=Fs hR
 have HII:=Fs hI
 unfold Qs at hIx hSp ⊢
 rw [ex,fx] at hIx hSp ⊢
 have HI:=Fs hIx
 have HSP:=Fs hSp
 clear hI hIx hSp hsd hxr hbw ex fx hok hsm hed hdr hR
 obtain ⟨W2,hW2⟩:∃V,V=(w1.alloc (.cells #[.slice A L.length c] 26)).alloc (.cells #[.int .i64 x.n, .slice Ax x.b.length cx, .slice Bx x.items.length dx] 29):=⟨_,rfl⟩
 have bW2:Below w1.heap.size w1 W2:=by rw [hW2];exact ((Fv w1.heap.size w1).alloc (Fu _) _).alloc (by simp) _
 have Kq:=Fs (show Zo W2 (w1.heap.size) 26 #[.slice A L.length c] by rw [hW2];exact (Zo.new w1 _ _).alloc _)
 have Kx:=Fs (show Zo W2 (w1.heap.size+1) 29 #[.int .i64 x.n, .slice Ax x.b.length cx, .slice Bx x.items.length dx] by rw [hW2];have:=Zo.new (w1.alloc (.cells #[.slice A L.length c] 26)) 29 #[.int .i64 x.n, .slice Ax x.b.length cx, .slice Bx x.items.length dx];simpa using this)
 have q0:W2.cell? ⟨w1.heap.size,0,none⟩=some (.slice A L.length c):=Kq.out.cell 0 rfl
 obtain ⟨⟨x0,x1,x2⟩, -⟩:=Kx.out.c3
 go_upto_region 4 with fail
 rw [←hW2]
 clear hW2
 have HB2:=Fs bW2
 go_wp2_with fail
 refine (HI.out _ HB2.out).mono ?_
 rintro e w3 ⟨vz,rfl,hz,bel⟩
 clear q0 x0 x1 x2
 have Kq:=Fs (show Zo w3 (w1.heap.size) 26 #[.slice A L.length c] from Kq.out.below bel)
 have Kx:=Fs (show Zo w3 (w1.heap.size+1) 29 #[.int .i64 x.n, .slice Ax x.b.length cx, .slice Bx x.items.length dx] from Kx.out.below bel)
 obtain ⟨z,hzd,rfl,hzo⟩:=hz
 obtain ⟨Az,cz,ez, -⟩:=hzo.own.rd.bytes.open_
 obtain ⟨Bz,dz,fz, -⟩:=hzo.own.rd.its.open_
 have Hz:=Fs (Ft hzd (Ft hzo.own.rd (Ft ez fz)))
 unfold Qs
 rw [ez,fz]
 clear ez fz hzd hzo
 obtain ⟨W4,hW4⟩:∃V,V=w3.alloc (.cells #[.int .i64 z.n, .slice Az z.b.length cz, .slice Bz z.items.length dz] 29):=⟨_,rfl⟩
 have bW4:Below w3.heap.size w3 W4:=by rw [hW4];exact (Fv _ _).alloc (Fu _) _
 have Kq:=Fs (show Zo W4 (w1.heap.size) 26 #[.slice A L.length c] from Kq.out.below bW4)
 have Kx:=Fs (show Zo W4 (w1.heap.size+1) 29 #[.int .i64 x.n, .slice Ax x.b.length cx, .slice Bx x.items.length dx] from Kx.out.below bW4)
 have Kz:=Fs (show Zo W4 (w3.heap.size) 29 #[.int .i64 z.n, .slice Az z.b.length cz, .slice Bz z.items.length dz] by rw [hW4];exact Zo.new w3 _ _)
 have hz34:=bW4.size
 have HB4:=Fs (Zb bW4 (Zb bel HB2.out))
 have Hz:=Fs (show z.d=Z∧z.rd W4 w3.heap.size∧_ from ⟨Hz.out.1,Hz.out.2.1.bel bW4,Hz.out.2.2⟩)
 have q0:W4.cell? ⟨w1.heap.size,0,none⟩=some (.slice A L.length c):=Kq.out.cell 0 rfl
 obtain ⟨⟨x0,x1,x2⟩, -⟩:=Kx.out.c3
 obtain ⟨⟨z0,z1,z2⟩, -⟩:=Kz.out.c3
 have HW4:=Fs hW4
 clear hW4 bW4 bel HI HB2 bW2
 go_upto_region 5 with fail
 rw [←HW4.out]
 clear HW4
 go_wp2_with fail
 refine (HSP.out _ HB4.out).mono ?_
 rintro e w5 ⟨vz2,rfl,hz2,bel⟩
 obtain ⟨A2,c2,B2,d2,rfl⟩:=hz2.agg
 clear q0 x0 x1 x2 z0 z1 z2
 have Kq:=Fs (show Zo w5 (w1.heap.size) 26 #[.slice A L.length c] from Kq.out.below bel)
 have Kx:=Fs (show Zo w5 (w1.heap.size+1) 29 #[.int .i64 x.n, .slice Ax x.b.length cx, .slice Bx x.items.length dx] from Kx.out.below bel)
 have Kz:=Fs (show Zo w5 (w3.heap.size) 29 #[.int .i64 z.n, .slice Az z.b.length cz, .slice Bz z.items.length dz] from Kz.out.below bel)
 obtain ⟨W6,hW6⟩:∃V,V=w5.alloc (.cells #[.int .i64 Z.n, .slice A2 Z.b.length c2, .slice B2 Z.items.length d2] 29):=⟨_,rfl⟩
 have bW6:Below w5.heap.size w5 W6:=by rw [hW6];exact (Fv _ _).alloc (Fu _) _
 have Kq:=Fs (show Zo W6 (w1.heap.size) 26 #[.slice A L.length c] from Kq.out.below bW6)
 have Kx:=Fs (show Zo W6 (w1.heap.size+1) 29 #[.int .i64 x.n, .slice Ax x.b.length cx, .slice Bx x.items.length dx] from Kx.out.below bW6)
 have Kz:=Fs (show Zo W6 (w3.heap.size) 29 #[.int .i64 z.n, .slice Az z.b.length cz, .slice Bz z.items.length dz] from Kz.out.below bW6)
 have HB6:=Fs (Zb bW6 (Zb bel HB4.out))
 have Hz:=Fs (show z.d=Z∧z.rd W6 w3.heap.size∧_ from ⟨Hz.out.1,(Hz.out.2.1.bel (bel.mono hz34)).bel (bW6.mono (by have:=bel.size;omega)),Hz.out.2.2⟩)
 have hz36:w3.heap.size≤W6.heap.size:=by have:=bel.size;have:=bW6.size;omega
 have q0:W6.cell? ⟨w1.heap.size,0,none⟩=some (.slice A L.length c):=Kq.out.cell 0 rfl
 obtain ⟨⟨x0,x1,x2⟩, -⟩:=Kx.out.c3
 obtain ⟨⟨z0,z1,z2⟩, -⟩:=Kz.out.c3
 have HW6:=Fs hW6
 clear hW6 bW6 bel HSP HB4 hz2
 go_upto_region 8 with fail
 rw [←HW6.out]
 clear HW6
 go_upto_if 55 with fail
 go_cut [] (fun wx=> Below W6.heap.size W6 wx)
 case first=>
  cases ok with
  |false=>
   go_wp2
   go_meet
   exact Fv _ _
  |true=>
   obtain ⟨k,Q,hf,hqn,hqs,hvz⟩:=sel_back HRR.out (by rw [hlm];exact hl9) HED.out
   have hF1:Calls prog 10 #[.agg #[.slice A L.length c],Qs z, .string S] W6 (Mu (Q,k,true) W6):=by
    have:=Xw _ L z S W6.heap.size W6 ((HB.out.1.below HB6.out).more HB6.out.size) (Fu _) HOK.out.1 HOK.out.2 (Hz.out.2.1.more hz36) (by rw [Hz.out.1];omega) (by omega)
    rw [Hz.out.1] at this
    rwa [hf] at this
   have hV:∀W,Below W6.heap.size W6 W→Calls prog 15 #[.agg #[.slice A L.length c], .int .i64 ((L.length:Int) - 1),Qs z] W fun e w'=> e= .returned (.bool true)∧Below W.heap.size W w':=fun W hb=> by
    have hb1:=Zb hb HB6.out
    have:=Vl _ L ((L.length:Int) - 1) z W6.heap.size W ((HB.out.1.below hb1).more HB6.out.size) hb.size HOK.out.1 HOK.out.2 ((Hz.out.2.1.more hz36).bel hb) (by rw [Hz.out.1];omega)
    have hv2:=hvz
    rw [Bool.and_eq_true,hlm] at hv2
    rwa [Hz.out.1,hv2.2] at this
   unfold Qs at hF1 hV
   rw [Hz.out.2.2.1,Hz.out.2.2.2] at hF1 hV
   have HF1:=Fs hF1
   have HV:=Fs hV
   have HQN:=Fs hqn
   clear hF1 hV hf hqn hvz
   go_wp2_with fail
   refine HF1.out.mono ?_
   rintro e w7 ⟨vp,rfl,hp,bel⟩
   dsimp only at hp ⊢
   clear q0 x0 x1 x2 z0 z1 z2
   have Kq:=Fs (show Zo w7 (w1.heap.size) 26 #[.slice A L.length c] from Kq.out.below bel)
   have Kx:=Fs (show Zo w7 (w1.heap.size+1) 29 #[.int .i64 x.n, .slice Ax x.b.length cx, .slice Bx x.items.length dx] from Kx.out.below bel)
   have Kz:=Fs (show Zo w7 (w3.heap.size) 29 #[.int .i64 z.n, .slice Az z.b.length cz, .slice Bz z.items.length dz] from Kz.out.below bel)
   obtain ⟨p,hpd,rfl,hpo⟩:=hp
   obtain ⟨Ap,cp,ep, -⟩:=hpo.own.rd.bytes.open_
   obtain ⟨Bp,dp,fp, -⟩:=hpo.own.rd.its.open_
   have Hp:=Fs (Ft hpd (Ft hpo.own.rd (Ft ep fp)))
   unfold Qs
   rw [ep,fp]
   clear ep fp hpd hpo
   obtain ⟨W8,hW8⟩:∃V,V=w7.alloc (.cells #[.int .i64 p.n, .slice Ap p.b.length cp, .slice Bp p.items.length dp] 29):=⟨_,rfl⟩
   have bW8:Below w7.heap.size w7 W8:=by rw [hW8];exact (Fv _ _).alloc (Fu _) _
   have Kq:=Fs (show Zo W8 (w1.heap.size) 26 #[.slice A L.length c] from Kq.out.below bW8)
   have Kx:=Fs (show Zo W8 (w1.heap.size+1) 29 #[.int .i64 x.n, .slice Ax x.b.length cx, .slice Bx x.items.length dx] from Kx.out.below bW8)
   have Kz:=Fs (show Zo W8 (w3.heap.size) 29 #[.int .i64 z.n, .slice Az z.b.length cz, .slice Bz z.items.length dz] from Kz.out.below bW8)
   have Kp:=Fs (show Zo W8 (w7.heap.size) 29 #[.int .i64 p.n, .slice Ap p.b.length cp, .slice Bp p.items.length dp] by rw [hW8];exact Zo.new w7 _ _)
   have HB8:=Fs (Zb bW8 bel)
   have hpn:p.n=tag:=by rw [←HQN.out,←Hp.out.1,VM.n_d]
   have q0:W8.cell? ⟨w1.heap.size,0,none⟩=some (.slice A L.length c):=Kq.out.cell 0 rfl
   obtain ⟨⟨x0,x1,x2⟩, -⟩:=Kx.out.c3
   obtain ⟨⟨z0,z1,z2⟩, -⟩:=Kz.out.c3
   obtain ⟨⟨p0,p1,p2⟩, -⟩:=Kp.out.c3
   rw [hpn] at p0
   have htt:(tag==tag)=true:=by simp
   have hl1w:IntKind.i64.wrap ((L.length:Int) - 1)=(L.length:Int) - 1:=IntWalk.i64_in _ (by omega)
   rw [hpn] at hW8
   have HW8:=Fs hW8
   clear hW8 bW8 bel HF1 Kp Kq Kx Kz
   go_upto_region 10 with fail
   rw [←HW8.out]
   clear HW8
   go_wp2_with fail
   refine (HV.out W8 HB8.out).mono ?_
   rintro e w9 ⟨rfl,bel⟩
   have HF:=Fs (Zb bel HB8.out)
   clear bel
   go_wp2
   go_meet
   exact HF.out
 have HW:=Fs (Zb hcut (Zb HB6.out HB.out.2.2))
 obtain ⟨w0,hw0⟩:∃V,V=wc:=⟨_,rfl⟩
 rw [←hw0] at HW ⊢
 clear hw0 hcut Kq Kx Kz HB HE HOK HED HRR HII HB6 Hz q0 x0 x1 x2 z0 z1 z2
 go_wp2_with fail
 refine (Hc _ l w0 ((HH.out.below HW.out).more HW.out.size) hl).mono ?_
 rintro e w1 ⟨A,c,L,x,S,av,rfl,⟨pr,rfl⟩,hdr,hl1,hl9,hxs,hSs,hsd,hxr,hb1⟩
 have hbw:=Zb hb1 HW.out
 clear hb1
 have hlm:(L.map RM.d).length=L.length:=List.length_map ..
 have hok:∀r∈L,r.d.ok:=fun r hr=> hdr.ok (by rw [hlm];exact hl9) _ (List.mem_map_of_mem hr)
 have hsm:∀r∈L,r.d.small 1048576:=fun r hr=> hdr.small _ (List.mem_map_of_mem hr)
 have hR:∀k (hk:k < (L.map RM.d).length),Lk (L.map RM.d) k hk:=fun k hk=> hdr.ruK (by rw [hlm];exact hl9) hk
 obtain ⟨Ax,cx,ex, -⟩:=hxr.bytes.open_
 obtain ⟨Bx,dx,fx, -⟩:=hxr.its.open_
 obtain ⟨Z,ok,hed⟩:∃Z ok,Qv (L.map RM.d) x.d (Qt Zf S) (Yr Zf S) (Uf (L.map RM.d) pr)=(Z,ok):=⟨_,_,rfl⟩
 have hZs:Z.size≤1769480:=opt_size hR (by rw [hlm];exact hl9) hxs hed
 have hI:∀(u:VM) W,Below w1.heap.size w1 W→u.d.size≤2097152→u.rd W W.heap.size→Calls prog 17 #[.agg #[.slice A L.length c],Qs u, .string S, .bool pr] W (Uw (Ue (Qv (L.map RM.d) u.d (Qt Zf S) (Yr Zf S) (Uf (L.map RM.d) pr)).1) (.bool (Qv (L.map RM.d) u.d (Qt Zf S) (Yr Zf S) (Uf (L.map RM.d) pr)).2) W):=fun u W hb hus hur=>
  implOpt_any _ L u S pr W.heap.size W ((hsd.below hb).more hb.size) (Fu _) hok hsm hur hus hdr hl9 (by omega) (Pb HT.out (hbw.trans (hb.mono hbw.size)))
 have hSp:∀W,Below w1.heap.size w1 W→Calls prog 18 #[.agg #[.slice A L.length c],Qs x, .string S, .bool pr] W (Uw (Ue Z) (.bool ok) W):=fun W hb=> by
  have:=specOpt_any _ L x S pr w1.heap.size W (hsd.below hb) hb.size hok hsm hdr hl9 (hxr.bel hb) (by omega) (by omega)
  rwa [hed] at this
 have hIx:∀W,Below w1.heap.size w1 W→Calls prog 17 #[.agg #[.slice A L.length c],Qs x, .string S, .bool pr] W (Uw (Ue Z) (.bool ok) W):=fun W hb=> by
  have:=hI x W hb (by omega) ((hxr.bel hb).more hb.size)
  rwa [hed] at this
 have HB:=Fs (Ft hsd (Ft hxr hbw))
 have HE:=Fs (Ft ex fx)
 have HOK:=Fs (Ft hok hsm)
 have HED:=Fs hed
 have HRR:=Fs hR
 have HII:=Fs hI
 unfold Qs at hIx hSp ⊢
 rw [ex,fx] at hIx hSp ⊢
 have HI:=Fs hIx
 have HSP:=Fs hSp
 clear hI hIx hSp hsd hxr hbw ex fx hok hsm hed hdr hR
 obtain ⟨W2,hW2⟩:∃V,V=(w1.alloc (.cells #[.slice A L.length c] 26)).alloc (.cells #[.int .i64 x.n, .slice Ax x.b.length cx, .slice Bx x.items.length dx] 29):=⟨_,rfl⟩
 have bW2:Below w1.heap.size w1 W2:=by rw [hW2];exact ((Fv w1.heap.size w1).alloc (Fu _) _).alloc (by simp) _
 have Kq:=Fs (show Zo W2 (w1.heap.size) 26 #[.slice A L.length c] by rw [hW2];exact (Zo.new w1 _ _).alloc _)
 have Kx:=Fs (show Zo W2 (w1.heap.size+1) 29 #[.int .i64 x.n, .slice Ax x.b.length cx, .slice Bx x.items.length dx] by rw [hW2];have:=Zo.new (w1.alloc (.cells #[.slice A L.length c] 26)) 29 #[.int .i64 x.n, .slice Ax x.b.length cx, .slice Bx x.items.length dx];simpa using this)
 have q0:W2.cell? ⟨w1.heap.size,0,none⟩=some (.slice A L.length c):=Kq.out.cell 0 rfl
 obtain ⟨⟨x0,x1,x2⟩, -⟩:=Kx.out.c3
 go_upto_region 13 with fail
 rw [←hW2]
 clear hW2
 have HB2:=Fs bW2
 go_wp2_with fail
 refine (HI.out _ HB2.out).mono ?_
 rintro e w3 ⟨vz,rfl,hz,bel⟩
 clear q0 x0 x1 x2
 have Kq:=Fs (show Zo w3 (w1.heap.size) 26 #[.slice A L.length c] from Kq.out.below bel)
 have Kx:=Fs (show Zo w3 (w1.heap.size+1) 29 #[.int .i64 x.n, .slice Ax x.b.length cx, .slice Bx x.items.length dx] from Kx.out.below bel)
 obtain ⟨z,hzd,rfl,hzo⟩:=hz
 obtain ⟨Az,cz,ez, -⟩:=hzo.own.rd.bytes.open_
 obtain ⟨Bz,dz,fz, -⟩:=hzo.own.rd.its.open_
 have Hz:=Fs (Ft hzd (Ft hzo.own.rd (Ft ez fz)))
 unfold Qs
 rw [ez,fz]
 clear ez fz hzd hzo
 obtain ⟨W4,hW4⟩:∃V,V=w3.alloc (.cells #[.int .i64 z.n, .slice Az z.b.length cz, .slice Bz z.items.length dz] 29):=⟨_,rfl⟩
 have bW4:Below w3.heap.size w3 W4:=by rw [hW4];exact (Fv _ _).alloc (Fu _) _
 have Kq:=Fs (show Zo W4 (w1.heap.size) 26 #[.slice A L.length c] from Kq.out.below bW4)
 have Kx:=Fs (show Zo W4 (w1.heap.size+1) 29 #[.int .i64 x.n, .slice Ax x.b.length cx, .slice Bx x.items.length dx] from Kx.out.below bW4)
 have Kz:=Fs (show Zo W4 (w3.heap.size) 29 #[.int .i64 z.n, .slice Az z.b.length cz, .slice Bz z.items.length dz] by rw [hW4];exact Zo.new w3 _ _)
 have hz34:=bW4.size
 have HB4:=Fs (Zb bW4 (Zb bel HB2.out))
 have Hz:=Fs (show z.d=Z∧z.rd W4 w3.heap.size∧_ from ⟨Hz.out.1,Hz.out.2.1.bel bW4,Hz.out.2.2⟩)
 have q0:W4.cell? ⟨w1.heap.size,0,none⟩=some (.slice A L.length c):=Kq.out.cell 0 rfl
 obtain ⟨⟨x0,x1,x2⟩, -⟩:=Kx.out.c3
 obtain ⟨⟨z0,z1,z2⟩, -⟩:=Kz.out.c3
 have HW4:=Fs hW4
 clear hW4 bW4 bel HI HB2 bW2
 go_upto_region 14 with fail
 rw [←HW4.out]
 clear HW4
 go_wp2_with fail
 refine (HSP.out _ HB4.out).mono ?_
 rintro e w5 ⟨vz2,rfl,hz2,bel⟩
 obtain ⟨A2,c2,B2,d2,rfl⟩:=hz2.agg
 clear q0 x0 x1 x2 z0 z1 z2
 have Kq:=Fs (show Zo w5 (w1.heap.size) 26 #[.slice A L.length c] from Kq.out.below bel)
 have Kx:=Fs (show Zo w5 (w1.heap.size+1) 29 #[.int .i64 x.n, .slice Ax x.b.length cx, .slice Bx x.items.length dx] from Kx.out.below bel)
 have Kz:=Fs (show Zo w5 (w3.heap.size) 29 #[.int .i64 z.n, .slice Az z.b.length cz, .slice Bz z.items.length dz] from Kz.out.below bel)
 obtain ⟨W6,hW6⟩:∃V,V=w5.alloc (.cells #[.int .i64 Z.n, .slice A2 Z.b.length c2, .slice B2 Z.items.length d2] 29):=⟨_,rfl⟩
 have bW6:Below w5.heap.size w5 W6:=by rw [hW6];exact (Fv _ _).alloc (Fu _) _
 have Kq:=Fs (show Zo W6 (w1.heap.size) 26 #[.slice A L.length c] from Kq.out.below bW6)
 have Kx:=Fs (show Zo W6 (w1.heap.size+1) 29 #[.int .i64 x.n, .slice Ax x.b.length cx, .slice Bx x.items.length dx] from Kx.out.below bW6)
 have Kz:=Fs (show Zo W6 (w3.heap.size) 29 #[.int .i64 z.n, .slice Az z.b.length cz, .slice Bz z.items.length dz] from Kz.out.below bW6)
 have HB6:=Fs (Zb bW6 (Zb bel HB4.out))
 have Hz:=Fs (show z.d=Z∧z.rd W6 w3.heap.size∧_ from ⟨Hz.out.1,(Hz.out.2.1.bel (bel.mono hz34)).bel (bW6.mono (by have:=bel.size;omega)),Hz.out.2.2⟩)
 have hz36:w3.heap.size≤W6.heap.size:=by have:=bel.size;have:=bW6.size;omega
 have q0:W6.cell? ⟨w1.heap.size,0,none⟩=some (.slice A L.length c):=Kq.out.cell 0 rfl
 obtain ⟨⟨x0,x1,x2⟩, -⟩:=Kx.out.c3
 obtain ⟨⟨z0,z1,z2⟩, -⟩:=Kz.out.c3
 have HW6:=Fs hW6
 clear hW6 bW6 bel HSP HB4 hz2
 cases ok with
 |false=>
  have hst:=editV_stay HED.out
  have hE:Calls prog 9 #[Qs z,Qs x] W6 fun e w'=> e= .returned (.bool true)∧Below W6.heap.size W6 w':=
   Ls z x W6.heap.size W6 (by rw [Hz.out.1,hst]) (Hz.out.2.1.more (by omega)) ((HB.out.2.1.bel HB6.out).more HB6.out.size) (Fu _) (by rw [Hz.out.1];omega)
  unfold Qs at hE
  rw [Hz.out.2.2.1,Hz.out.2.2.2,HE.out.1,HE.out.2] at hE
  have HEQ:=Fs hE
  clear hE hst
  go_upto_region 18 with fail
  rw [←HW6.out]
  clear HW6
  go_wp2_with fail
  refine HEQ.out.mono ?_
  rintro e w7 ⟨rfl,bel⟩
  have HF:=Fs (Zb (Zb bel HB6.out) HB.out.2.2)
  clear bel
  go_wp2
  go_ret
  exact ⟨rfl,HF.out⟩
 |true=>
  obtain ⟨k,Q,hf,hqi,hed2⟩:=opt_back HRR.out (by rw [hlm];exact hl9) HED.out
  have hF1:Calls prog 10 #[.agg #[.slice A L.length c],Qs z, .string S] W6 (Mu (Q,k,true) W6):=by
   have:=Xw _ L z S W6.heap.size W6 ((HB.out.1.below HB6.out).more HB6.out.size) (Fu _) HOK.out.1 HOK.out.2 (Hz.out.2.1.more hz36) (by rw [Hz.out.1];omega) (by omega)
   rw [Hz.out.1] at this
   rwa [hf] at this
  have hR:∀W,Below W6.heap.size W6 W→Calls prog 17 #[.agg #[.slice A L.length c],Qs z, .string S, .bool pr] W (Uw (Ue Z) (.bool true) W):=fun W hb=> by
   have hb1:=Zb hb HB6.out
   have:=HII.out z W hb1 (by rw [Hz.out.1];omega) (((Hz.out.2.1.more hz36).bel hb).more hb.size)
   rw [Hz.out.1] at this
   rwa [hed2] at this
  unfold Qs at hF1 hR
  rw [Hz.out.2.2.1,Hz.out.2.2.2] at hF1 hR
  have HF1:=Fs hF1
  have HR1:=Fs hR
  have HQI:=Fs hqi
  clear hF1 hR hf hqi hed2 HII
  go_upto_region 19 with fail
  rw [←HW6.out]
  clear HW6
  go_wp2_with fail
  refine HF1.out.mono ?_
  rintro e w7 ⟨vp,rfl,hp,bel⟩
  dsimp only at hp ⊢
  clear q0 x0 x1 x2 z0 z1 z2
  have Kq:=Fs (show Zo w7 (w1.heap.size) 26 #[.slice A L.length c] from Kq.out.below bel)
  have Kx:=Fs (show Zo w7 (w1.heap.size+1) 29 #[.int .i64 x.n, .slice Ax x.b.length cx, .slice Bx x.items.length dx] from Kx.out.below bel)
  have Kz:=Fs (show Zo w7 (w3.heap.size) 29 #[.int .i64 z.n, .slice Az z.b.length cz, .slice Bz z.items.length dz] from Kz.out.below bel)
  obtain ⟨p,hpd,rfl,hpo⟩:=hp
  obtain ⟨Ap,cp,ep, -⟩:=hpo.own.rd.bytes.open_
  obtain ⟨Bp,dp,fp, -⟩:=hpo.own.rd.its.open_
  have Hp:=Fs (Ft hpd (Ft hpo.own.rd (Ft ep fp)))
  unfold Qs
  rw [ep,fp]
  clear ep fp hpd hpo
  obtain ⟨W8,hW8⟩:∃V,V=w7.alloc (.cells #[.int .i64 p.n, .slice Ap p.b.length cp, .slice Bp p.items.length dp] 29):=⟨_,rfl⟩
  have bW8:Below w7.heap.size w7 W8:=by rw [hW8];exact (Fv _ _).alloc (Fu _) _
  have Kq:=Fs (show Zo W8 (w1.heap.size) 26 #[.slice A L.length c] from Kq.out.below bW8)
  have Kx:=Fs (show Zo W8 (w1.heap.size+1) 29 #[.int .i64 x.n, .slice Ax x.b.length cx, .slice Bx x.items.length dx] from Kx.out.below bW8)
  have Kz:=Fs (show Zo W8 (w3.heap.size) 29 #[.int .i64 z.n, .slice Az z.b.length cz, .slice Bz z.items.length dz] from Kz.out.below bW8)
  have Kp:=Fs (show Zo W8 (w7.heap.size) 29 #[.int .i64 p.n, .slice Ap p.b.length cp, .slice Bp p.items.length dp] by rw [hW8];exact Zo.new w7 _ _)
  have HB8:=Fs (Zb bW8 bel)
  have hz78:=bW8.size
  have hpl:((p.items.length:Int)==1)=pr:=by
   have h1:Q.items.length=p.items.length:=by rw [←Hp.out.1,VM.items_d];exact List.length_map ..
   have h2:=HQI.out
   rw [h1] at h2
   cases pr with
   |false=>
    rw [beq_eq_false_iff_ne]
    intro e
    have:=h2.1 (by omega)
    cases this
   |true=>
    have:=h2.2 rfl
    rw [this]
    rfl
  have q0:W8.cell? ⟨w1.heap.size,0,none⟩=some (.slice A L.length c):=Kq.out.cell 0 rfl
  obtain ⟨⟨x0,x1,x2⟩, -⟩:=Kx.out.c3
  obtain ⟨⟨z0,z1,z2⟩, -⟩:=Kz.out.c3
  obtain ⟨⟨p0,p1,p2⟩, -⟩:=Kp.out.c3
  have HW8:=Fs hW8
  clear hW8 bW8 bel HF1
  go_upto_region 20 with fail
  rw [←HW8.out]
  clear HW8
  go_wp2_with fail
  refine (HR1.out W8 HB8.out).mono ?_
  rintro e w9 ⟨vb,rfl,hb,bel⟩
  clear q0 x0 x1 x2 z0 z1 z2 p0 p1 p2
  have Kq:=Fs (show Zo w9 (w1.heap.size) 26 #[.slice A L.length c] from Kq.out.below bel)
  have Kx:=Fs (show Zo w9 (w1.heap.size+1) 29 #[.int .i64 x.n, .slice Ax x.b.length cx, .slice Bx x.items.length dx] from Kx.out.below bel)
  have Kz:=Fs (show Zo w9 (w3.heap.size) 29 #[.int .i64 z.n, .slice Az z.b.length cz, .slice Bz z.items.length dz] from Kz.out.below bel)
  have Kp:=Fs (show Zo w9 (w7.heap.size) 29 #[.int .i64 p.n, .slice Ap p.b.length cp, .slice Bp p.items.length dp] from Kp.out.below bel)
  obtain ⟨b,hbd,rfl,hbo⟩:=hb
  obtain ⟨Ab,cb,eb, -⟩:=hbo.own.rd.bytes.open_
  obtain ⟨Bb,db,fb, -⟩:=hbo.own.rd.its.open_
  have Hb:=Fs (Ft hbd (Ft hbo.own.rd (Ft eb fb)))
  unfold Qs
  rw [eb,fb]
  clear eb fb hbd hbo
  obtain ⟨W10,hW10⟩:∃V,V=w9.alloc (.cells #[.int .i64 b.n, .slice Ab b.b.length cb, .slice Bb b.items.length db] 29):=⟨_,rfl⟩
  have bW10:Below w9.heap.size w9 W10:=by rw [hW10];exact (Fv _ _).alloc (Fu _) _
  have Kq:=Fs (show Zo W10 (w1.heap.size) 26 #[.slice A L.length c] from Kq.out.below bW10)
  have Kx:=Fs (show Zo W10 (w1.heap.size+1) 29 #[.int .i64 x.n, .slice Ax x.b.length cx, .slice Bx x.items.length dx] from Kx.out.below bW10)
  have Kz:=Fs (show Zo W10 (w3.heap.size) 29 #[.int .i64 z.n, .slice Az z.b.length cz, .slice Bz z.items.length dz] from Kz.out.below bW10)
  have Kp:=Fs (show Zo W10 (w7.heap.size) 29 #[.int .i64 p.n, .slice Ap p.b.length cp, .slice Bp p.items.length dp] from Kp.out.below bW10)
  have Kb:=Fs (show Zo W10 (w9.heap.size) 29 #[.int .i64 b.n, .slice Ab b.b.length cb, .slice Bb b.items.length db] by rw [hW10];exact Zo.new w9 _ _)
  have HB10:=Fs (Zb bW10 (Zb bel HB8.out))
  have hz910:=bW10.size
  have hz89:=bel.size
  have HB1:=Fs (Zb HB10.out HB6.out)
  have hQ1:=Ls b z W10.heap.size W10 (by rw [Hb.out.1,Hz.out.1]) ((Hb.out.2.1.bel bW10).more (by omega)) (((Hz.out.2.1.more hz36).bel HB10.out).more HB10.out.size) (Fu _) (by rw [Hb.out.1];omega)
  unfold Qs at hQ1
  rw [Hb.out.2.2.1,Hb.out.2.2.2,Hz.out.2.2.1,Hz.out.2.2.2] at hQ1
  have HQ1:=Fs hQ1
  have q0:W10.cell? ⟨w1.heap.size,0,none⟩=some (.slice A L.length c):=Kq.out.cell 0 rfl
  obtain ⟨⟨x0,x1,x2⟩, -⟩:=Kx.out.c3
  obtain ⟨⟨z0,z1,z2⟩, -⟩:=Kz.out.c3
  obtain ⟨⟨p0,p1,p2⟩, -⟩:=Kp.out.c3
  obtain ⟨⟨b0,b1,b2⟩, -⟩:=Kb.out.c3
  have hpp:(pr==pr)=true:=by simp
  have HW10:=Fs hW10
  clear hW10 bW10 bel HR1 hQ1 HQI
  go_upto_region 21 with fail
  rw [←HW10.out]
  clear HW10
  go_wp2_with fail
  refine HQ1.out.mono ?_
  rintro e w11 ⟨rfl,bel⟩
  have HF:=Fs (Zb (Zb bel HB1.out) HB.out.2.2)
  clear bel
  go_wp2
  go_ret
  exact ⟨rfl,HF.out⟩
end Go.Proofs.YteldgdelmaeokaaGreatDoor.FnAlternatives
