/- The walk of the law FnParts. No condition but those of its argument. -/
import Derived.Test.YteldgdelmaeokaaDoorGdp
import Derived.Test.YteldgdelmaeokaaDoorGdh
import Derived.Test.YteldgdelmaeokaaDoorGk
import Derived.Test.YteldgdelmaeokaaDoorGa
import Derived.IntWalk
import Derived.WalkSpells
import Derived.WalkLawsBesides
import Derived.Deep.RegionHeld3
import Derived.Deep.DeepCutAuto
set_option linter.unusedSimpArgs false
set_option linter.unusedVariables false
namespace Go.Proofs.YteldgdelmaeokaaDoor.FnParts
open Go.RowKit
theorem own_on {lo:Nat} {w w':World} {x:VM} (h:x.own lo w) (hb:Below w.heap.size w w'):x.own lo w':=h.keep fun g hg=> hb.block g (h.lt g hg).2
structure Rnd (n:Nat) (vD vX:Value) (p:Val) (w1:World) (j:Nat) (s:ByteArray) (z:Int):Prop where
 size:s.size≤13
 st:∀W,Below w1.heap.size w1 W→Calls Tryd.prog 14 #[vD, .int .i64 ((n:Int) - 1), .int .i64 j] W fun e w'=> e= .returned (.string s)∧Below W.heap.size W w'
 is:∀W,Calls Tryd.prog 15 #[.string s] W fun e w'=> e= .returned (.bool true)∧Below W.heap.size W w'
 fo:∀W,Below w1.heap.size w1 W→Calls Tryd.prog 16 #[vD, .int .i64 ((n:Int) - 1),vX, .string s] W fun e w'=> e= .returned (.int .i64 j)∧Below W.heap.size W w'
 fi:∀W,Below w1.heap.size w1 W→Calls Tryd.prog 17 #[vD,vX, .string ((⟨#[47]⟩:ByteArray)++s)] W (FindE (p,z,true) W)
 it:∀W,Below w1.heap.size w1 W→Calls Tryd.prog 18 #[vD, .int .i64 ((n:Int) - 1),vX, .int .i64 j] W fun e w'=> e= .returned (.int .i64 z)∧Below W.heap.size W w'
structure Whole (n:Nat) (vD vX:Value) (X:Val) (w1:World):Prop where
 fw:∀W,Below w1.heap.size w1 W→Calls Tryd.prog 17 #[vD,vX, .string ⟨#[]⟩] W (FindE (X,(n:Int) - 1,true) W)
 fz:∀W,Below w1.heap.size w1 W→Calls Tryd.prog 17 #[vD,vX, .string ⟨#[47,122,122]⟩] W (FindE (noVal, -1,false) W)
 zz:∀W,Below w1.heap.size w1 W→Calls Tryd.prog 16 #[vD, .int .i64 ((n:Int) - 1),vX, .string ⟨#[122,122]⟩] W fun e w'=> e= .returned (.int .i64 (-1))∧Below W.heap.size W w'
section
variable {vD:Value} {L:List RM} {x:VM} {w w1:World} {lo:Nat}
theorem round_of (hdr:DrD (L.map RM.d)) (h1:1≤L.length) (h6:L.length≤6) (hv:validV (L.map RM.d) (L.length - 1:Nat) x.d=true) (hs:x.d.size≤589824) (hsd:SlD w1 w1.heap.size vD L) (hx:x.own lo w1) (ht:Tab w1) {j:Nat} (hj:j < x.items.length):
  ∃s z,Rnd L.length (.agg #[vD]) (vmV x) x.items[j].d w1 j s z:=by
 have hlm:(L.map RM.d).length=L.length:=List.length_map ..
 have hok:∀r∈L,r.d.ok:=fun r hr=> hdr.ok (by omega) _ (List.mem_map_of_mem hr)
 have hsm:∀r∈L,r.d.small 1048576:=fun r hr=> hdr.small _ (List.mem_map_of_mem hr)
 have hvd:=hdr.valid (by omega) (by omega)
 have hc:((L.length:Int) - 1)=((L.length - 1:Nat):Int):=by omega
 have hji:j < x.d.items.length:=by rw [VM.items_d,List.length_map];exact hj
 have hv':validV (L.map RM.d) ((L.map RM.d).length - 1:Nat) x.d=true:=by rw [hlm];exact hv
 have hS:=drawn_step hdr (by omega) (by omega) hv' hji
 have hF:=find_item hdr (by omega) (by omega) hv' hji
 have hm:x.items.length≤1048576:=by
  have:=valid_items hv hdr.small
  rwa [VM.items_d,List.length_map] at this
 have hkl:L.length - 1 < L.length:=by omega
 have er:(L.map RM.d)[(L.map RM.d).length - 1]'(by omega)=L[L.length - 1].d:=by
  rw [List.getElem_map];congr 2;omega
 rw [er] at hS hF
 rw [VM.d_items_at hj,VM.n_d] at hF
 have hsz:=hS.le
 have hk':L.length - 1 < (L.map RM.d).length:=by omega
 have er2:(L.map RM.d)[L.length - 1]'hk'=L[L.length - 1].d:=by rw [List.getElem_map]
 refine ⟨stepR L[L.length - 1].d j,itemR L[L.length - 1].d x.n j,hsz,fun W hb=> ?_,fun W=> ?_,fun W hb=> ?_,fun W hb=> ?_,fun W hb=> ?_⟩
 ·have:=implStepOf_any vD L ((L.length:Int) - 1) j w1.heap.size W (hsd.below hb) hb.size hok hsm (by unfold InI64;omega) (tab_on ht hb)
  rw [hc] at this ⊢
  rw [step_at' hvd hk',er2] at this
  exact this
 ·have:=implIsStep_any (stepR L[L.length - 1].d j) W (by unfold maxLen;omega)
  rwa [hS.step] at this
 ·have:=implFollow_any vD L ((L.length:Int) - 1) x (stepR L[L.length - 1].d j) w1.heap.size W (hsd.below hb) hb.size hok hsm (hx.rd.bel hb) hm (by unfold maxLen;omega) (tab_on ht hb)
  rw [hc,follow_at' hvd hk',er2] at this
  have hf:=hS.fol
  rw [VM.items_d,List.length_map] at hf
  rwa [hf,←hc] at this
 ·have hsp:=sp_one (s:=(⟨#[47]⟩:ByteArray)++stepR L[L.length - 1].d j) (t:=stepR L[L.length - 1].d j) (by rw [ByteArray.data_append];simp) hS.no hS.step
  have:=implFind_any vD L x lo ((⟨#[47]⟩:ByteArray)++stepR L[L.length - 1].d j) w1.heap.size W (hsd.below hb) hb.size hok hsm (own_on hx hb) (by omega) (by rw [ByteArray.size_append];show 1+_≤_;omega) (tab_on ht hb)
  rwa [hsp.1,hsp.2,hF] at this
 ·rw [hc]
  exact specItemRule_any vD L (L.length - 1) j x w1.heap.size W (hsd.below hb) hb.size hok hsm (hx.rd.bel hb) hvd hkl hj (by omega)
theorem whole_of (hdr:DrD (L.map RM.d)) (h1:1≤L.length) (h6:L.length≤6) (hv:validV (L.map RM.d) (L.length - 1:Nat) x.d=true) (hs:x.d.size≤589824) (hsd:SlD w1 w1.heap.size vD L) (hx:x.own lo w1) (ht:Tab w1):
  Whole L.length (.agg #[vD]) (vmV x) x.d w1:=by
 have hlm:(L.map RM.d).length=L.length:=List.length_map ..
 have hok:∀r∈L,r.d.ok:=fun r hr=> hdr.ok (by omega) _ (List.mem_map_of_mem hr)
 have hsm:∀r∈L,r.d.small 1048576:=fun r hr=> hdr.small _ (List.mem_map_of_mem hr)
 have hc:((L.length:Int) - 1)=((L.length - 1:Nat):Int):=by omega
 have hv':validV (L.map RM.d) ((L.map RM.d).length - 1:Nat) x.d=true:=by rw [hlm];exact hv
 have hm:x.items.length≤1048576:=by
  have:=valid_items hv hdr.small
  rwa [VM.items_d,List.length_map] at this
 refine ⟨fun W hb=> ?_,fun W hb=> ?_,fun W hb=> ?_⟩
 ·have hsp:=sp_none (s:=⟨#[]⟩) rfl
  have:=implFind_any vD L x lo ⟨#[]⟩ w1.heap.size W (hsd.below hb) hb.size hok hsm (own_on hx hb) (by omega) (by show 0≤_;omega) (tab_on ht hb)
  rwa [hsp.1,hsp.2,find_whole hdr (by omega) (by omega) hv',hlm,←hc] at this
 ·have hsp:=sp_one (s:=⟨#[47,122,122]⟩) (t:=⟨#[122,122]⟩) rfl (by intro c hc;simp at hc;subst hc;decide) (zz_step rfl)
  have:=implFind_any vD L x lo ⟨#[47,122,122]⟩ w1.heap.size W (hsd.below hb) hb.size hok hsm (own_on hx hb) (by omega) (by show 3≤_;omega) (tab_on ht hb)
  rwa [hsp.1,hsp.2,find_zz hdr (by omega) (by omega) hv' rfl] at this
 ·have:=implFollow_any vD L ((L.length:Int) - 1) x ⟨#[122,122]⟩ w1.heap.size W (hsd.below hb) hb.size hok hsm (hx.rd.bel hb) hm (by unfold maxLen;show 2≤_;omega) (tab_on ht hb)
  have hf:=follow_zz hdr (by omega) (by omega) hv' (s:=⟨#[122,122]⟩) rfl
  rw [VM.items_d,hlm,List.length_map] at hf
  rw [hc,hf,←hc] at this
  exact this
end
set_option maxHeartbeats 8000000 in
set_option maxRecDepth 100000 in
theorem walk (v:Value) (l:List UInt8) (w:World) (h:SlB w w.heap.size v l) (ht:Tab w):
  Calls Tryd.prog 4 #[v] w fun e w'=> e= .returned (.bool true)∧Below w.heap.size w w':=by
 obtain ⟨A0,c0,rfl,hcc⟩:=h.open_
 clear hcc
 by_cases hbig:1048576 < (l.length:Int)
 ·have HB:=Lib.hid hbig
  clear hbig
  go_enter Tryd.func4,Tryd.ntmps4
  go_wp2_with fail
  refine (big_any _ l _ w h).mono ?_
  rintro e w1 ⟨rfl,rfl⟩
  rw [decide_eq_true HB.out]
  go_wp2
  go_ret
  exact ⟨rfl,Below.refl _ _⟩
 have hl:l.length≤1048576:=by omega
 have HT:=Lib.hid ht
 clear hbig ht
 go_enter Tryd.func4,Tryd.ntmps4
 go_wp2_with fail
 refine (big_any _ l _ w h).mono ?_
 rintro e w1 ⟨rfl,rfl⟩
 rw [decide_eq_false (show ¬(1048576 < (l.length:Int)) by omega)]
 go_wp2_with fail
 refine (drawValue_any _ l w h hl).mono ?_
 rintro e w1 ⟨A,c,L,x,rfl,hdr,hl1,hl6,hv,hsz,hsd,hx,hb1⟩
 have ht1:=tab_on HT.out hb1
 have hRN:∀j (hj:j < x.items.length),∃s z,Rnd L.length (.agg #[.slice A L.length c]) (vmV x) x.items[j].d w1 j s z:=fun j hj=> round_of hdr hl1 hl6 hv hsz hsd hx ht1 hj
 have hWH:=whole_of hdr hl1 hl6 hv hsz hsd hx ht1
 have hm:x.items.length≤1048576:=by
  have:=valid_items hv hdr.small
  rwa [VM.items_d,List.length_map] at this
 have hrd:=hx.rd
 obtain ⟨Ax,cx,ex, -⟩:=hrd.bytes.open_
 obtain ⟨Bx,dx,fx,hcy,hmy,hic⟩:=hrd.its.open_
 have hvm:vmV x= .agg #[.int .i64 x.n, .slice Ax x.b.length cx, .slice Bx x.items.length dx]:=by unfold vmV;rw [ex,fx]
 have hEW:∀(u:VM) W,u.d=x.d→Below w1.heap.size w1 W→u.rd W W.heap.size→Calls Tryd.prog 10 #[vmV u,vmV x] W fun e w'=> e= .returned (.bool true)∧Below W.heap.size W w':=fun u W hu hb hr=>
  specEqV_any u x W.heap.size W hu hr ((hrd.bel hb).more hb.size) (Nat.le_refl _) (by rw [hu];omega)
 have hEI:∀j (hj:j < x.items.length) (u:VM) W,u.d=x.items[j].d→Below w1.heap.size w1 W→u.rd W W.heap.size→Calls Tryd.prog 10 #[vmV u,vmV x.items[j]] W fun e w'=> e= .returned (.bool true)∧Below W.heap.size W w':=fun j hj u W hu hb hr=>
  specEqV_any u x.items[j] W.heap.size W hu hr (((hrd.its.2 _ (List.getElem_mem hj)).bel hb).more hb.size) (Nat.le_refl _) (by rw [hu];have:=VM.size_item hj (N:=4194304) (by omega);omega)
 have hIO:∀j (hj:j < x.items.length),∃A5 c5 A6 c6,x.items[j].vb= .slice A5 x.items[j].b.length c5∧x.items[j].vi= .slice A6 x.items[j].items.length c6:=fun j hj=> by
  have hr:=hrd.its.2 _ (List.getElem_mem hj)
  obtain ⟨A5,c5,e5, -⟩:=hr.bytes.open_
  obtain ⟨A6,c6,e6, -⟩:=hr.its.open_
  exact ⟨A5,c5,A6,c6,e5,e6⟩
 rw [hvm] at hRN hWH hEW ⊢
 have HRN:=Lib.hid hRN
 have HWH:=Lib.hid hWH
 have HEW:=Lib.hid hEW
 have HEI:=Lib.hid hEI
 have HIC:=Lib.hid hic
 have HIO:=Lib.hid hIO
 have HB1:=Lib.hid hb1
 clear hRN hWH hEW hEI hic hIO hrd hx hsd hdr hv hsz ht1 ex fx hvm hb1 h HT
 obtain ⟨W2,hW2⟩:∃V,V=(w1.alloc (.cells #[.slice A L.length c] 26)).alloc (.cells #[.int .i64 x.n, .slice Ax x.b.length cx, .slice Bx x.items.length dx] 29):=⟨_,rfl⟩
 have bW2:=Lib.hid (show Below w1.heap.size w1 W2 by rw [hW2];exact ((Below.refl w1.heap.size w1).alloc (Nat.le_refl _) _).alloc (by simp) _)
 have Kq:=Lib.hid (show Blk W2 (w1.heap.size) 26 #[.slice A L.length c] by rw [hW2];exact (Blk.new w1 _ _).alloc _)
 have Kx:=Lib.hid (show Blk W2 (w1.heap.size+1) 29 #[.int .i64 x.n, .slice Ax x.b.length cx, .slice Bx x.items.length dx] by rw [hW2];have:=Blk.new (w1.alloc (.cells #[.slice A L.length c] 26)) 29 #[.int .i64 x.n, .slice Ax x.b.length cx, .slice Bx x.items.length dx];simpa using this)
 have hz2:w1.heap.size+1 < W2.heap.size:=Kx.out.lt
 have hl1w:IntKind.i64.wrap ((L.length:Int) - 1)=(L.length:Int) - 1:=IntWalk.i64_in _ (by omega)
 have q0:W2.cell? ⟨w1.heap.size,0,none⟩=some (.slice A L.length c):=Kq.out.cell 0 rfl
 obtain ⟨⟨x0,x1,x2⟩, -⟩:=Kx.out.c3
 go_upto_region 4 with fail
 rw [←hW2]
 clear hW2
 go_wp2
 clear q0 x0 x1 x2
 go_loopw [6] (fun i wr=> ∃k:Nat,k≤x.items.length∧i= .int .i64 k∧Below W2.heap.size W2 wr) (fun i _=> x.items.length - (intOf i).toNat)
 case atStart=> exact ⟨0,Nat.zero_le _,rfl,Below.refl _ _⟩
 case round=>
  obtain ⟨j,hj,rfl,hb⟩:=hrel
  have hszr:=hb.size
  have bq:=below_step hb bW2.out
  have Kq:=Lib.hid (show Blk wr (w1.heap.size) 26 #[.slice A L.length c] from Kq.out.below hb)
  have Kx:=Lib.hid (show Blk wr (w1.heap.size+1) 29 #[.int .i64 x.n, .slice Ax x.b.length cx, .slice Bx x.items.length dx] from Kx.out.below hb)
  have q0:wr.cell? ⟨w1.heap.size,0,none⟩=some (.slice A L.length c):=Kq.out.cell 0 rfl
  obtain ⟨⟨x0,x1,x2⟩, -⟩:=Kx.out.c3
  have hzr:w1.heap.size+1 < wr.heap.size:=Kx.out.lt
  have HB:=Lib.hid (And.intro hb bq)
  clear hb bq
  by_cases hlt:j < x.items.length
  ·skip
   obtain ⟨s,z,hR⟩:=HRN.out j hlt
   have HR:=Lib.hid hR
   have hss:=hR.size
   obtain ⟨bi,fi,rfl,hbi,i0,i1,i2⟩:=HIC.out j hlt
   obtain ⟨A5,c5,A6,c6,e5,e6⟩:=HIO.out j hlt
   have HEJ:=HEI.out j hlt
   unfold vmV at HEJ
   rw [e5] at i1
   rw [e6] at i2
   rw [e5,e6] at HEJ
   have HEJ:=Lib.hid HEJ
   have HI:=Lib.hid (And.intro i0 (And.intro i1 i2))
   clear hR e5 e6 i0 i1 i2 HWH HEW HRN HIC HIO HEI
   generalize x.items[j]=y at*
   go_wp2_with fail
   refine (HR.out.st _ HB.out.2).mono ?_
   rintro e w3 ⟨rfl,bel⟩
   clear q0 x0 x1 x2
   have HB:=Lib.hid (And.intro (below_step bel HB.out.1) (below_step bel HB.out.2))
   have Kq:=Lib.hid (show Blk w3 (w1.heap.size) 26 #[.slice A L.length c] from Kq.out.below bel)
   have Kx:=Lib.hid (show Blk w3 (w1.heap.size+1) 29 #[.int .i64 x.n, .slice Ax x.b.length cx, .slice (some ⟨bi,fi,none⟩) x.items.length dx] from Kx.out.below bel)
   have q0:w3.cell? ⟨w1.heap.size,0,none⟩=some (.slice A L.length c):=Kq.out.cell 0 rfl
   obtain ⟨⟨x0,x1,x2⟩, -⟩:=Kx.out.c3
   have hzr_w3:w1.heap.size+1 < w3.heap.size:=Kx.out.lt
   clear bel
   go_wp2_with fail
   refine (HR.out.is _).mono ?_
   rintro e w4 ⟨rfl,bel⟩
   clear q0 x0 x1 x2
   have HB:=Lib.hid (And.intro (below_step bel HB.out.1) (below_step bel HB.out.2))
   have Kq:=Lib.hid (show Blk w4 (w1.heap.size) 26 #[.slice A L.length c] from Kq.out.below bel)
   have Kx:=Lib.hid (show Blk w4 (w1.heap.size+1) 29 #[.int .i64 x.n, .slice Ax x.b.length cx, .slice (some ⟨bi,fi,none⟩) x.items.length dx] from Kx.out.below bel)
   have q0:w4.cell? ⟨w1.heap.size,0,none⟩=some (.slice A L.length c):=Kq.out.cell 0 rfl
   obtain ⟨⟨x0,x1,x2⟩, -⟩:=Kx.out.c3
   have hzr_w4:w1.heap.size+1 < w4.heap.size:=Kx.out.lt
   clear bel
   go_wp2_with fail
   refine (HR.out.fo _ HB.out.2).mono ?_
   rintro e w5 ⟨rfl,bel⟩
   clear q0 x0 x1 x2
   have HB:=Lib.hid (And.intro (below_step bel HB.out.1) (below_step bel HB.out.2))
   have Kq:=Lib.hid (show Blk w5 (w1.heap.size) 26 #[.slice A L.length c] from Kq.out.below bel)
   have Kx:=Lib.hid (show Blk w5 (w1.heap.size+1) 29 #[.int .i64 x.n, .slice Ax x.b.length cx, .slice (some ⟨bi,fi,none⟩) x.items.length dx] from Kx.out.below bel)
   have q0:w5.cell? ⟨w1.heap.size,0,none⟩=some (.slice A L.length c):=Kq.out.cell 0 rfl
   obtain ⟨⟨x0,x1,x2⟩, -⟩:=Kx.out.c3
   have hzr_w5:w1.heap.size+1 < w5.heap.size:=Kx.out.lt
   clear bel
   have hcs:¬9223372036854775807 < 1+s.size:=by omega
   go_wp2_with fail
   refine (HR.out.fi _ HB.out.2).mono ?_
   rintro e w6 ⟨vp,rfl,hp,bel⟩
   dsimp only at hp ⊢
   obtain ⟨p,hpd,rfl,hpo⟩:=hp
   obtain ⟨Ap,cp,ep, -⟩:=hpo.own.rd.bytes.open_
   obtain ⟨Bp,dp,fp, -⟩:=hpo.own.rd.its.open_
   have Hp:=Lib.hid (And.intro hpd (And.intro hpo.own.rd (And.intro ep fp)))
   unfold vmV
   rw [ep,fp]
   clear ep fp hpd hpo
   clear q0 x0 x1 x2
   have HB:=Lib.hid (And.intro (below_step bel HB.out.1) (below_step bel HB.out.2))
   have Kq:=Lib.hid (show Blk w6 (w1.heap.size) 26 #[.slice A L.length c] from Kq.out.below bel)
   have Kx:=Lib.hid (show Blk w6 (w1.heap.size+1) 29 #[.int .i64 x.n, .slice Ax x.b.length cx, .slice (some ⟨bi,fi,none⟩) x.items.length dx] from Kx.out.below bel)
   have q0:w6.cell? ⟨w1.heap.size,0,none⟩=some (.slice A L.length c):=Kq.out.cell 0 rfl
   obtain ⟨⟨x0,x1,x2⟩, -⟩:=Kx.out.c3
   have hzr_w6:w1.heap.size+1 < w6.heap.size:=Kx.out.lt
   clear bel
   obtain ⟨W7,hW7⟩:∃V,V=w6.alloc (.cells #[.int .i64 p.n, .slice Ap p.b.length cp, .slice Bp p.items.length dp] 29):=⟨_,rfl⟩
   have bel:Below w6.heap.size w6 W7:=by rw [hW7];exact (Below.refl _ _).alloc (Nat.le_refl _) _
   have Kp:=Lib.hid (show Blk W7 w6.heap.size 29 #[.int .i64 p.n, .slice Ap p.b.length cp, .slice Bp p.items.length dp] by rw [hW7];exact Blk.new w6 _ _)
   have Hp:=Lib.hid (show p.d=y.d∧p.rd W7 W7.heap.size∧_ from ⟨Hp.out.1,(Hp.out.2.1.bel bel).more bel.size,Hp.out.2.2⟩)
   clear q0 x0 x1 x2
   have HB:=Lib.hid (And.intro (below_step bel HB.out.1) (below_step bel HB.out.2))
   have Kq:=Lib.hid (show Blk W7 (w1.heap.size) 26 #[.slice A L.length c] from Kq.out.below bel)
   have Kx:=Lib.hid (show Blk W7 (w1.heap.size+1) 29 #[.int .i64 x.n, .slice Ax x.b.length cx, .slice (some ⟨bi,fi,none⟩) x.items.length dx] from Kx.out.below bel)
   have q0:W7.cell? ⟨w1.heap.size,0,none⟩=some (.slice A L.length c):=Kq.out.cell 0 rfl
   obtain ⟨⟨x0,x1,x2⟩, -⟩:=Kx.out.c3
   have hzr_W7:w1.heap.size+1 < W7.heap.size:=Kx.out.lt
   have hz_W7:w6.heap.size < W7.heap.size:=Kp.out.lt
   clear bel
   obtain ⟨⟨p0,p1,p2⟩, -⟩:=Kp.out.c3
   have i0:=cell_keep HI.out.1 HB.out.2 hbi
   have i1:=cell_keep HI.out.2.1 HB.out.2 hbi
   have i2:=cell_keep HI.out.2.2 HB.out.2 hbi
   go_upto_region 12 with fail
   rw [←hW7]
   clear hW7
   have bq:=(Below.refl W7.heap.size W7).drew
   have bw:=HB.out.2.drew
   refine wp_region_held_drew (S:=(fun w9=> w9.cell? ⟨w1.heap.size,0,none⟩=some (.slice A L.length c)∧w9.cell? ⟨w1.heap.size+1,0,none⟩=some (.int .i64 x.n)∧w9.cell? ⟨w1.heap.size+1,1,none⟩=some (.slice Ax x.b.length cx)∧w9.cell? ⟨w1.heap.size+1,2,none⟩=some (.slice (some ⟨bi,fi,none⟩) x.items.length dx)∧w9.cell? ⟨w6.heap.size,0,none⟩=some (.int .i64 p.n)∧w9.cell? ⟨w6.heap.size,1,none⟩=some (.slice Ap p.b.length cp)∧w9.cell? ⟨w6.heap.size,2,none⟩=some (.slice Bp p.items.length dp)∧w9.cell? ⟨bi,fi+j*3,none⟩=some (.int .i64 y.n)∧w9.cell? ⟨bi,fi+j*3+1,none⟩=some (.slice A5 y.b.length c5)∧w9.cell? ⟨bi,fi+j*3+2,none⟩=some (.slice A6 y.items.length c6))) (by kernel_rfl) ?_ (fun hHeld=> ?_)
   ·(try dsimp only);exact ⟨q0,x0,x1,x2,p0,p1,p2,i0,i1,i2⟩
   refine rgTake 0 (some 60) hHeld _ ?_;try go_frame
   refine rgTake 1 (some 61) hHeld _ ?_;try go_frame
   refine rgTake 2 (some 62) hHeld _ ?_;try go_frame
   refine rgTake 3 (some 63) hHeld _ ?_;try go_frame
   refine rgTake 4 (some 64) hHeld _ ?_;try go_frame
   refine rgTake 5 (some 65) hHeld _ ?_;try go_frame
   refine rgTake 6 (some 66) hHeld _ ?_;try go_frame
   refine rgTake 7 (some 67) hHeld _ ?_;try go_frame
   refine rgStep 8 (fun K hK=> ?_)
   go_simp
   refine (HR.out.it _ bw).mono ?_;rintro e w8 ⟨rfl,bel8⟩;have bq:=below_step bel8 bq;have bw:=below_step bel8 bw
   (try go_wp2_with fail)
   refine hK.out _ _ ?_ (fun hHeld=> ?_)
   ·(try dsimp only);exact ⟨cell_later bq q0,cell_later bq x0,cell_later bq x1,cell_later bq x2,cell_later bq p0,cell_later bq p1,cell_later bq p2,cell_later bq i0,cell_later bq i1,cell_later bq i2⟩
   clear hK K
   try go_frame
   refine rgTake 9 (some 69) hHeld _ ?_;try go_frame
   refine rgTake 10 (some 70) hHeld _ ?_;try go_frame
   refine rgTake 11 (some 71) hHeld _ ?_;try go_frame
   refine rgTake 12 (some 72) hHeld _ ?_;try go_frame
   refine rgTake 13 (some 73) hHeld _ ?_;try go_frame
   refine rgTake 14 (some 74) hHeld _ ?_;try go_frame
   refine rgTake 15 (some 75) hHeld _ ?_;try go_frame
   refine rgTake 16 (some 76) hHeld _ ?_;try go_frame
   refine rgTake 17 (some 77) hHeld _ ?_;try go_frame
   refine rgStep 18 (fun K hK=> ?_)
   go_simp
   have hEQ:=HEJ.out p _ Hp.out.1 bw ((Hp.out.2.1.bel bq).more bq.size);unfold vmV at hEQ;rw [Hp.out.2.2.1,Hp.out.2.2.2] at hEQ;refine hEQ.mono ?_;rintro e w9 ⟨rfl,bel9⟩;have bq:=below_step bel9 bq;have bw:=below_step bel9 bw;clear hEQ
   (try go_wp2_with fail)
   refine hK.out _ _ ?_ (fun hHeld=> ?_)
   ·(try dsimp only);exact ⟨cell_later bq q0,cell_later bq x0,cell_later bq x1,cell_later bq x2,cell_later bq p0,cell_later bq p1,cell_later bq p2,cell_later bq i0,cell_later bq i1,cell_later bq i2⟩
   clear hK K
   try go_frame
   refine rgTake 19 (some 79) hHeld _ ?_;try go_frame
   refine rgTake 20 (some 80) hHeld _ ?_;try go_frame
   refine wpAnyH_done (by kernel_rfl) ?_ _
   have HF:=Lib.hid (below_step bq HB.out.1)
   go_wp2
   go_roundw
   case rel=> exact ⟨j+1,by omega,by go_num,HF.out⟩
   case measure=> simp [intOf];omega
  ·obtain rfl:j=x.items.length:=by omega
   clear HRN HIC HIO HEI
   go_wp2_with fail
   refine (HWH.out.fw _ HB.out.2).mono ?_
   rintro e w3 ⟨vp,rfl,hp,bel⟩
   dsimp only at hp ⊢
   obtain ⟨p,hpd,rfl,hpo⟩:=hp
   obtain ⟨Ap,cp,ep, -⟩:=hpo.own.rd.bytes.open_
   obtain ⟨Bp,dp,fp, -⟩:=hpo.own.rd.its.open_
   have Hp:=Lib.hid (And.intro hpd (And.intro hpo.own.rd (And.intro ep fp)))
   unfold vmV
   rw [ep,fp]
   clear ep fp hpd hpo
   clear q0 x0 x1 x2
   have HB:=Lib.hid (And.intro (below_step bel HB.out.1) (below_step bel HB.out.2))
   have Kq:=Lib.hid (show Blk w3 (w1.heap.size) 26 #[.slice A L.length c] from Kq.out.below bel)
   have Kx:=Lib.hid (show Blk w3 (w1.heap.size+1) 29 #[.int .i64 x.n, .slice Ax x.b.length cx, .slice Bx x.items.length dx] from Kx.out.below bel)
   have q0:w3.cell? ⟨w1.heap.size,0,none⟩=some (.slice A L.length c):=Kq.out.cell 0 rfl
   obtain ⟨⟨x0,x1,x2⟩, -⟩:=Kx.out.c3
   have hzr_w3:w1.heap.size+1 < w3.heap.size:=Kx.out.lt
   clear bel
   obtain ⟨W4,hW4⟩:∃V,V=w3.alloc (.cells #[.int .i64 p.n, .slice Ap p.b.length cp, .slice Bp p.items.length dp] 29):=⟨_,rfl⟩
   have bel:Below w3.heap.size w3 W4:=by rw [hW4];exact (Below.refl _ _).alloc (Nat.le_refl _) _
   have Kp:=Lib.hid (show Blk W4 w3.heap.size 29 #[.int .i64 p.n, .slice Ap p.b.length cp, .slice Bp p.items.length dp] by rw [hW4];exact Blk.new w3 _ _)
   have Hp:=Lib.hid (show p.d=x.d∧p.rd W4 W4.heap.size∧_ from ⟨Hp.out.1,(Hp.out.2.1.bel bel).more bel.size,Hp.out.2.2⟩)
   clear q0 x0 x1 x2
   have HB:=Lib.hid (And.intro (below_step bel HB.out.1) (below_step bel HB.out.2))
   have Kq:=Lib.hid (show Blk W4 (w1.heap.size) 26 #[.slice A L.length c] from Kq.out.below bel)
   have Kx:=Lib.hid (show Blk W4 (w1.heap.size+1) 29 #[.int .i64 x.n, .slice Ax x.b.length cx, .slice Bx x.items.length dx] from Kx.out.below bel)
   have q0:W4.cell? ⟨w1.heap.size,0,none⟩=some (.slice A L.length c):=Kq.out.cell 0 rfl
   obtain ⟨⟨x0,x1,x2⟩, -⟩:=Kx.out.c3
   have hzr_W4:w1.heap.size+1 < W4.heap.size:=Kx.out.lt
   have hz_W4:w3.heap.size < W4.heap.size:=Kp.out.lt
   clear bel
   go_upto_region 15 with fail
   rw [←hW4]
   clear hW4
   go_wp2_with fail
   refine (HWH.out.fz _ HB.out.2).mono ?_
   rintro e w5 ⟨vn,rfl,hp,bel⟩
   have hz5:=bel.size
   have Kp:=Lib.hid (show Blk w5 w3.heap.size 29 #[.int .i64 p.n, .slice Ap p.b.length cp, .slice Bp p.items.length dp] from Kp.out.below bel)
   have Hp:=Lib.hid (show p.d=x.d∧p.rd w5 w5.heap.size∧_ from ⟨Hp.out.1,(Hp.out.2.1.bel bel).more bel.size,Hp.out.2.2⟩)
   dsimp only at hp ⊢
   obtain ⟨n,hnd,rfl,hno⟩:=hp
   obtain ⟨An,cn,en, -⟩:=hno.own.rd.bytes.open_
   obtain ⟨Bn,dn,fn, -⟩:=hno.own.rd.its.open_
   have Hn:=Lib.hid (And.intro hnd (And.intro hno.own.rd (And.intro en fn)))
   unfold vmV
   rw [en,fn]
   clear en fn hnd hno
   clear q0 x0 x1 x2
   have HB:=Lib.hid (And.intro (below_step bel HB.out.1) (below_step bel HB.out.2))
   have Kq:=Lib.hid (show Blk w5 (w1.heap.size) 26 #[.slice A L.length c] from Kq.out.below bel)
   have Kx:=Lib.hid (show Blk w5 (w1.heap.size+1) 29 #[.int .i64 x.n, .slice Ax x.b.length cx, .slice Bx x.items.length dx] from Kx.out.below bel)
   have q0:w5.cell? ⟨w1.heap.size,0,none⟩=some (.slice A L.length c):=Kq.out.cell 0 rfl
   obtain ⟨⟨x0,x1,x2⟩, -⟩:=Kx.out.c3
   have hzr_w5:w1.heap.size+1 < w5.heap.size:=Kx.out.lt
   clear bel
   obtain ⟨W6,hW6⟩:∃V,V=w5.alloc (.cells #[.int .i64 n.n, .slice An n.b.length cn, .slice Bn n.items.length dn] 29):=⟨_,rfl⟩
   have bel:Below w5.heap.size w5 W6:=by rw [hW6];exact (Below.refl _ _).alloc (Nat.le_refl _) _
   have Kn:=Lib.hid (show Blk W6 w5.heap.size 29 #[.int .i64 n.n, .slice An n.b.length cn, .slice Bn n.items.length dn] by rw [hW6];exact Blk.new w5 _ _)
   have Hn:=Lib.hid (show n.d=noVal∧n.rd W6 W6.heap.size∧_ from ⟨Hn.out.1,(Hn.out.2.1.bel bel).more bel.size,Hn.out.2.2⟩)
   clear q0 x0 x1 x2
   have HB:=Lib.hid (And.intro (below_step bel HB.out.1) (below_step bel HB.out.2))
   have Kq:=Lib.hid (show Blk W6 (w1.heap.size) 26 #[.slice A L.length c] from Kq.out.below bel)
   have Kx:=Lib.hid (show Blk W6 (w1.heap.size+1) 29 #[.int .i64 x.n, .slice Ax x.b.length cx, .slice Bx x.items.length dx] from Kx.out.below bel)
   have q0:W6.cell? ⟨w1.heap.size,0,none⟩=some (.slice A L.length c):=Kq.out.cell 0 rfl
   obtain ⟨⟨x0,x1,x2⟩, -⟩:=Kx.out.c3
   have hzr_W6:w1.heap.size+1 < W6.heap.size:=Kx.out.lt
   have hz_W6:w5.heap.size < W6.heap.size:=Kn.out.lt
   clear bel
   have Kp:=Lib.hid (show Blk W6 w3.heap.size 29 #[.int .i64 p.n, .slice Ap p.b.length cp, .slice Bp p.items.length dp] by rw [hW6];exact Kp.out.alloc _)
   obtain ⟨⟨p0,p1,p2⟩, -⟩:=Kp.out.c3
   have hz56:w5.heap.size≤W6.heap.size:=by omega
   have Hp:=Lib.hid (show p.d=x.d∧p.rd W6 W6.heap.size∧_ from ⟨Hp.out.1,(Hp.out.2.1.bel (by rw [hW6];exact (Below.refl _ _).alloc (Nat.le_refl _) _)).more hz56,Hp.out.2.2⟩)
   go_upto_region 16 with fail
   rw [←hW6]
   clear hW6
   go_wp2_with fail
   have hEQ:=HEW.out p _ Hp.out.1 HB.out.2 Hp.out.2.1
   unfold vmV at hEQ
   rw [Hp.out.2.2.1,Hp.out.2.2.2] at hEQ
   refine hEQ.mono ?_
   rintro e w7 ⟨rfl,bel⟩
   clear hEQ p0 p1 p2
   clear q0 x0 x1 x2
   have HB:=Lib.hid (And.intro (below_step bel HB.out.1) (below_step bel HB.out.2))
   have Kq:=Lib.hid (show Blk w7 (w1.heap.size) 26 #[.slice A L.length c] from Kq.out.below bel)
   have Kx:=Lib.hid (show Blk w7 (w1.heap.size+1) 29 #[.int .i64 x.n, .slice Ax x.b.length cx, .slice Bx x.items.length dx] from Kx.out.below bel)
   have q0:w7.cell? ⟨w1.heap.size,0,none⟩=some (.slice A L.length c):=Kq.out.cell 0 rfl
   obtain ⟨⟨x0,x1,x2⟩, -⟩:=Kx.out.c3
   have hzr_w7:w1.heap.size+1 < w7.heap.size:=Kx.out.lt
   clear bel
   go_wp2_with fail
   refine (HWH.out.zz _ HB.out.2).mono ?_
   rintro e w8 ⟨rfl,bel⟩
   have HF:=Lib.hid (below_step (below_step bel HB.out.2) HB1.out)
   clear bel
   go_wp2
   go_ret
   exact ⟨rfl,HF.out⟩
end Go.Proofs.YteldgdelmaeokaaDoor.FnParts
