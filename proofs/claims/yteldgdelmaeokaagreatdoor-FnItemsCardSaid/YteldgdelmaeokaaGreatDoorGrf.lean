/- The walk of spec.InsertItem. Conditions: the description reads as its rules, which are small; the value and the item read as their data and are small; the text has at most 2^21 bytes. -/
import Derived.Test.YteldgdelmaeokaaGreatDoorGrd
import Derived.Test.YteldgdelmaeokaaGreatDoorGrc
import Derived.Test.YteldgdelmaeokaaGreatDoorGf
import Derived.Test.YteldgdelmaeokaaGreatDoorGda
import Derived.WalkSpells
import Derived.WalkLawsBesides
import Derived.Deep.RegionHeld3
set_option linter.unusedSimpArgs false
set_option linter.unusedVariables false
set_option maxHeartbeats 4000000
set_option maxRecDepth 100000
namespace Go.Proofs.YteldgdelmaeokaaGreatDoor
open Go.Proofs.Tryz Go.RowKit
theorem specIns_any (vD:Value) (l:List RM) (x p:VM) (s:ByteArray) (at_:Int) (B:Nat) (w:World) (h:Jc w B vD l) (hB:B≤w.heap.size) (ok:∀r∈l,r.d.ok) (sm:∀r∈l,r.d.small 1048576) (hx:x.rd w B) (hs:x.d.size≤2097152) (hp:p.rd w B) (hps:p.d.size≤1048576) (hss:s.size≤2097152):
  Calls prog 8 #[.agg #[vD],Qr x, .string s, .int .i64 at_,Qr p] w (Pa (Vx (Jg (l.map RM.d) x.d (Qu Zf s) (Yl Zf s) (Rv (l.map RM.d) at_ p.d)).1) (.bool (Jg (l.map RM.d) x.d (Qu Zf s) (Yl Zf s) (Rv (l.map RM.d) at_ p.d)).2) w):=by
 obtain ⟨i0,hi,hz0,hz1,hz2⟩:=info_parts info_value
 have hlm:(l.map RM.d).length=l.length:=List.length_map ..
 have hF:∀W,Below w.heap.size w W→Calls prog 29 #[.agg #[vD],Qr x, .string s, .int .i64 5] W (Lz (partV (l.map RM.d) x.d (Qu Zf s) (Yl Zf s) 5) W):=fun W hb=>
  l22Part_any vD l x s 5 B W (h.below (hb.mono hB)) (by have:=hb.size;omega) ok sm (hx.bel (hb.mono hB)) (by omega) hss
 have hCX:∀W,Below w.heap.size w W→Calls prog 31 #[Qr x] W (Ov (Vx x.d) W):=fun W hb=>
  Xs x B W (hx.bel (hb.mono hB)) (by have:=hb.size;omega) (by omega)
 have hCP:∀W,Below w.heap.size w W→Calls prog 31 #[Qr p] W (Ov (Vx p.d) W):=fun W hb=>
  Xs p B W (hp.bel (hb.mono hB)) (by have:=hb.size;omega) (by omega)
 have hRP:∀(z:VM) W,Below w.heap.size w W→z.rd W W.heap.size→z.d.size≤4194304→Calls prog 32 #[.agg #[vD],Qr x, .string s,Qr z] W (Pa (Vx (Jg (l.map RM.d) x.d (Qu Zf s) (Yl Zf s) (My (l.map RM.d) z.d)).1) (.bool (Jg (l.map RM.d) x.d (Qu Zf s) (Yl Zf s) (My (l.map RM.d) z.d)).2) W):=fun z W hb hz hzs=>
  specRep_any vD l x z s W.heap.size W ((h.below (hb.mono hB)).more (by have:=hb.size;omega)) (Nat.le_refl _) ok sm ((hx.bel (hb.mono hB)).more (by have:=hb.size;omega)) (by omega) hz hzs hss
 obtain ⟨A,c,rfl,hc,hm, -⟩:=h.open_
 obtain ⟨Ax,cx,ex, -⟩:=hx.bytes.open_
 obtain ⟨Ay,cy,ey, -⟩:=hx.its.open_
 obtain ⟨Ap,cp,ep, -⟩:=hp.bytes.open_
 obtain ⟨Aq,cq,eq, -⟩:=hp.its.open_
 have hvx:Qr x= .agg #[.int .i64 x.n, .slice Ax x.b.length cx, .slice Ay x.items.length cy]:=by unfold Qr;rw [ex,ey]
 have hvp:Qr p= .agg #[.int .i64 p.n, .slice Ap p.b.length cp, .slice Aq p.items.length cq]:=by unfold Qr;rw [ep,eq]
 rw [hvx] at hF hCX hRP ⊢
 rw [hvp] at hCP ⊢
 obtain ⟨FY,FK,FB,hf⟩:∃a b c,Jw (l.map RM.d) x.d (Qu Zf s) (Yl Zf s)=(a,b,c):=⟨_,_,_,rfl⟩
 rw [partV_eq hf] at hF
 obtain ⟨PB,hpb⟩:∃b,(FB && Xl (l.map RM.d) FK 5)=b:=⟨_,rfl⟩
 rw [hpb] at hF
 have HF:=Fd hF
 have HCX:=Fd hCX
 have HCP:=Fd hCP
 have HRP:=Fd hRP
 have HFV:=Fd (And.intro hf (And.intro hpb (And.intro hs hps)))
 clear hF hCX hCP hRP hlm hf hpb h hx hp ok sm hs hps ex ey ep eq hvx hvp hc hm hss
 generalize l.length=nl at*
 generalize p.items.length=np at*
 obtain ⟨W0,hW0⟩:∃W0,W0=((((w.alloc (.cells #[.slice A nl c] 26)).alloc (.cells #[.int .i64 x.n, .slice Ax x.b.length cx, .slice Ay x.items.length cy] 29)).alloc (.cells #[.int .i64 p.n, .slice Ap p.b.length cp, .slice Aq np cq] 29)).alloc (.cells #[.int .i64 0, .slice none 0 0, .slice none 0 0] 29)):=⟨_,rfl⟩
 have hb0:Below w.heap.size w W0:=by rw [hW0];exact ((((Below.refl w.heap.size w).alloc (Nat.le_refl _) _).alloc (by simp) _).alloc (by simp;omega) _).alloc (by simp;omega) _
 have hzW0:W0.heap.size=w.heap.size+4:=by rw [hW0];simp
 have s0:W0.cell? ⟨w.heap.size,0,none⟩=some (.slice A nl c):=by rw [hW0];simp [go_sem]
 have v0:W0.cell? ⟨w.heap.size+1,0,none⟩=some (.int .i64 x.n):=by rw [hW0];simp [go_sem]
 have v1:W0.cell? ⟨w.heap.size+1,1,none⟩=some (.slice Ax x.b.length cx):=by rw [hW0];simp [go_sem]
 have v2:W0.cell? ⟨w.heap.size+1,2,none⟩=some (.slice Ay x.items.length cy):=by rw [hW0];simp [go_sem]
 have p0:W0.cell? ⟨w.heap.size+1+1,0,none⟩=some (.int .i64 p.n):=by rw [hW0];simp [go_sem]
 have p1:W0.cell? ⟨w.heap.size+1+1,1,none⟩=some (.slice Ap p.b.length cp):=by rw [hW0];simp [go_sem]
 have p2:W0.cell? ⟨w.heap.size+1+1,2,none⟩=some (.slice Aq np cq):=by rw [hW0];simp [go_sem]
 have HR3:B3 W0 (w.heap.size+1+1+1) (.int .i64 0) (.slice none 0 0) (.slice none 0 0):=by
  rw [hW0]
  have:=B3.new (((w.alloc (.cells #[.slice A nl c] 26)).alloc (.cells #[.int .i64 x.n, .slice Ax x.b.length cx, .slice Ay x.items.length cy] 29)).alloc (.cells #[.int .i64 p.n, .slice Ap p.b.length cp, .slice Aq np cq] 29)) (.int .i64 0) (.slice none 0 0) (.slice none 0 0) 29
  simpa using this
 go_enter func8,ntmps8
 go_upto_region 1 with fail
 rw [←hW0]
 clear hW0
 go_wp2_with fail
 refine (HF.out _ hb0).mono ?_
 rintro e w1 ⟨v,rfl,⟨y,hyd,rfl,ho⟩,bel⟩
 obtain ⟨A1,c1,e1, -⟩:=ho.own.rd.bytes.open_
 obtain ⟨A2,c2,e2,hc2,hm2, -⟩:=ho.own.rd.its.open_
 have hits:Ly w1 w1.heap.size (.slice A2 y.items.length c2) y.items:=by rw [←e2];exact ho.own.rd.its
 have hvy:Qr y= .agg #[.int .i64 y.n, .slice A1 y.b.length c1, .slice A2 y.items.length c2]:=by unfold Qr;rw [e1,e2]
 rw [hvy]
 obtain ⟨w2,hw2⟩:∃w2,w2=w1.alloc (.cells #[.int .i64 y.n, .slice A1 y.b.length c1, .slice A2 y.items.length c2] 29):=⟨_,rfl⟩
 have h12:Below w1.heap.size w1 w2:=by rw [hw2];exact (Below.refl _ _).alloc (Nat.le_refl _) _
 have BB2:B3 w2 w1.heap.size (.int .i64 y.n) (.slice A1 y.b.length c1) (.slice A2 y.items.length c2):=by rw [hw2];exact B3.new w1 _ _ _ _
 have b02:=bel.trans (h12.mono bel.size)
 have bw:=Zb b02 hb0
 have hzw1:w.heap.size+4≤w1.heap.size:=by have:=bel.size;omega
 have hzw2:w2.heap.size≤w1.heap.size+1:=by rw [hw2];simp
 have hzw3:w1.heap.size+1≤w2.heap.size:=by rw [hw2];simp
 have s2:=cell_later b02 s0
 have q0:=cell_later b02 v0
 have q1:=cell_later b02 v1
 have q2:=cell_later b02 v2
 have u0:=cell_later b02 p0
 have u1:=cell_later b02 p1
 have u2:=cell_later b02 p2
 have RB:=HR3.later b02
 have hyo:=VM.own_later ho.own h12
 have HY:=Fd (And.intro hyd (And.intro (ho.keep (Xm.of_below h12 0 0) (.inr (Nat.zero_le _))) (And.intro e1 e2)))
 have HIT:=Fd ((hits.below h12).more h12.size)
 clear hyd ho e1 e2 hits hvy bel h12 b02 s0 v0 v1 v2 p0 p1 p2 HR3 hb0
 go_upto_region 2 with fail
 rw [←hw2]
 clear hw2
 obtain ⟨lb,b0,b1,b2,g0,g1,g2⟩:=BB2
 have hyl:FY.items.length=y.items.length:=by rw [←HY.out.1,VM.items_d,List.length_map]
 cases PB
 ·have HX:=Fd (show Jg (l.map RM.d) x.d (Qu Zf s) (Yl Zf s) (Rv (l.map RM.d) at_ p.d)=(x.d,false) from by
   have h1:=HFV.out.1
   have h2:=HFV.out.2.1
   cases FB with
   |false=> exact Iv h1 _
   |true=> exact Xi (Tp h1).2 (Mj (by rw [Bool.true_and] at h2;rw [h2];rfl)))
  clear HFV HF HCP HRP HIT HY hyl hyo
  generalize x.d=xd at*
  generalize x.items.length=nx at*
  go_wp2_with fail
  refine (HCX.out _ bw).mono ?_
  rintro e wc ⟨vc,rfl,hoc,belc⟩
  have HB:=Fd (Zb belc bw)
  have RB:=RB.later belc
  obtain ⟨Ac,cc,Ac',cc',rfl⟩:=hoc.agg
  have HO:=Fd hoc
  have HZ:=Fd belc.size
  clear hoc belc bw
  obtain ⟨lt,t0,t1,t2,f0,f1,f2⟩:=RB
  go_wp2
  rw [HX.out]
  refine bodyPost_ret (v:= .tuple #[.agg #[.int .i64 xd.n, .slice Ac xd.b.length cc, .slice Ac' xd.items.length cc'], .bool false]) (by simp [results,results8,go_sem,t0,t1,t2]) rfl ⟨_,rfl,?_,Qf HB.out (by omega) _ _ _⟩
  have hz:=HZ.out
  refine (HO.out.set3 (g:=w.heap.size+1+1+1) (.inr (by omega)) _ _ _).wide (by omega) (by simp)
 ·have hft:FB=true∧Xl (l.map RM.d) FK 5=true:=by have:=HFV.out.2.1;simpa using this
  have hfv:=HFV.out.1
  rw [hft.1] at hfv
  have hft2:=Tp hfv
  cases hir:Yv at_ 0 y.items.length
  ·have HX:=Fd (Xi (ok:=Qu Zf s) hft2.2 (Mj (D:=l.map RM.d) (at_:=at_) (P:=p.d) (by rw [hyl,hir];simp)))
   have HR:=Fd hir
   clear HFV HF HCP HRP HIT HY hyl hir hft hft2 hfv hyo
   go_wp2_with fail
   refine (Qi _ _ _ _).mono ?_
   rintro e w3 ⟨rfl,rfl⟩
   rw [HR.out]
   generalize x.d=xd at*
   generalize x.items.length=nx at*
   go_wp2_with fail
   refine (HCX.out _ bw).mono ?_
   rintro e wc ⟨vc,rfl,hoc,belc⟩
   have HB:=Fd (Zb belc bw)
   have RB:=RB.later belc
   obtain ⟨Ac,cc,Ac',cc',rfl⟩:=hoc.agg
   have HO:=Fd hoc
   have HZ:=Fd belc.size
   clear hoc belc bw
   obtain ⟨lt,t0,t1,t2,f0,f1,f2⟩:=RB
   go_wp2
   rw [HX.out]
   refine bodyPost_ret (v:= .tuple #[.agg #[.int .i64 xd.n, .slice Ac xd.b.length cc, .slice Ac' xd.items.length cc'], .bool false]) (by simp [results,results8,go_sem,t0,t1,t2]) rfl ⟨_,rfl,?_,Qf HB.out (by omega) _ _ _⟩
   have hz:=HZ.out
   refine (HO.out.set3 (g:=w.heap.size+1+1+1) (.inr (by omega)) _ _ _).wide (by omega) (by simp)
  ·have h01:=Jo.1 hir
   obtain ⟨i,rfl⟩:=Int.eq_ofNat_of_zero_le h01.1
   have hil:i≤y.items.length:=by omega
   have HX:=Fd (show Jg (l.map RM.d) x.d (Qu Zf s) (Yl Zf s) (Rv (l.map RM.d) i p.d)=Jg (l.map RM.d) x.d (Qu Zf s) (Yl Zf s) (My (l.map RM.d) (Ta i p.d FY)) from editV_congr hft2.2 (by rw [Mi (by rw [hyl,hir,hft.2];rfl),Int.toNat_natCast];try rfl))
   have hFYs:FY.size≤2097152:=Nat.le_trans (Uj hft2.2) HFV.out.2.2.1
   have hps:=HFV.out.2.2.2
   have hyn:y.items.length≤2097152:=by
    have h2:=Zt.length_le (y.items.map VM.d)
    rw [List.length_map] at h2
    have h1:=hFYs
    rw [←HY.out.1,VM.size_d] at h1
    omega
   have HPS:=Fd (And.intro hFYs hps)
   have HR:=Fd hir
   have hnx:y.items.length≤9223372036854775807:=by omega
   have hcn:c2≤9223372036854775807:=by unfold maxLen at hm2;omega
   have hcutH:=Rk (P:=prog) underlying27 sizeOf29 A2 y.items.length c2 i i rfl (by omega)
   have hcutL:=Vr (P:=prog) underlying27 sizeOf29 A2 y.items.length c2 i i rfl hil
   have HSH:=Fd (Ly.head HIT.out hil hc2 hm2)
   have HSR:=Fd (Ly.rest HIT.out hil hc2 hm2)
   have HOT:=Fd (Un (l:=y.items.take i) (fun x hx=> hyo.its x (List.mem_of_mem_take hx)))
   have HOD:=Fd (Un (l:=y.items.drop i) (fun x hx=> hyo.its x (List.mem_of_mem_drop hx)))
   have HYO:=Fd hyo
   clear hir hyl hft hft2 hfv HFV hFYs hps hm2 h01 hyo HF
   generalize Jg (l.map RM.d) x.d (Qu Zf s) (Yl Zf s) (Rv (l.map RM.d) i p.d)=f at*
   generalize x.d=xd at*
   generalize x.items.length=nx at*
   generalize hny:y.items.length=ny at*
   have HN:=Fd hny
   clear hny
   go_wp2_with fail
   refine (Qi _ _ _ _).mono ?_
   rintro e w3 ⟨rfl,rfl⟩
   rw [HR.out]
   have bqd:=(Below.refl w2.heap.size w2).drew
   go_wp2_with fail
   refine Qs (S:=(fun w9=> w9.cell? ⟨w.heap.size+1+1,0,none⟩=some (.int .i64 p.n)∧w9.cell? ⟨w.heap.size+1+1,1,none⟩=some (.slice Ap p.b.length cp)∧w9.cell? ⟨w.heap.size+1+1,2,none⟩=some (.slice Aq np cq)∧w9.cell? ⟨w1.heap.size,2,none⟩=some (.slice A2 ny c2))) 16 (by kernel_rfl) ?_ (fun hHeld=> ?_)
   ·(try dsimp only);exact ⟨u0,u1,u2,b2⟩
   refine Zs 1 (some 36) hHeld _ ?_;try go_frame
   refine Zs 2 (some 37) hHeld _ ?_;try go_frame
   refine Zs 3 (some 38) hHeld _ ?_;try go_frame
   refine Zs 4 (some 39) hHeld _ ?_;try go_frame
   refine Zs 6 (some 41) hHeld _ ?_;try go_frame
   refine Zs 10 (some 45) hHeld _ ?_;try go_frame
   refine Zs 11 (some 46) hHeld _ ?_;try go_frame
   refine Zs 12 (some 47) hHeld _ ?_;try go_frame
   refine Zs 13 (some 48) hHeld _ ?_;try go_frame
   refine Qv 0 (fun K hK=> ?_)
   (try go_simp)
   obtain ⟨X1,hX1⟩:∃V,V=(w2.alloc (.cells #[] 29)).drew:=⟨_,rfl⟩;rw [←hX1];have he:X1.ownsRow w2.heap.size 29 3 (.slice (some ⟨w2.heap.size,0,none⟩) 0 0) 0 []:=(by rw [hX1];exact Qx (w:=w2) rfl (Nat.le_refl _));have bq:Below w2.heap.size w2 X1:=(by rw [hX1];exact ((Below.refl w2.heap.size w2).alloc (Nat.le_refl _) _).drew);clear hX1
   refine hK.out _ _ ?_ (fun hHeld=> ?_)
   ·(try dsimp only);exact ⟨cell_later bq u0,cell_later bq u1,cell_later bq u2,cell_later bq b2⟩
   clear hK K
   try go_frame
   refine Qv 5 (fun K hK=> ?_)
   refine Qz _ (.tmp 35) (.tmp 39) 27 rfl w2.heap.size 29 i0 (.agg #[.int .i64 0, .slice none 0 0, .slice none 0 0]) 3 56 underlying27 hi hz0 hz1 hz2 rfl (by decide) _ 0 [] rfl (by exact he) w2.heap.size (i - 0) _ ((y.items.take i).flatMap Ze) rfl (by exact Sl.below HSH.out bq) HOT.out (by omega) (by unfold maxLen;omega) (by have:=bq.size;omega) ?_;intro v1 X2 hv hg hvv;have bq:=bq.grown hg bq.size (by intro q hq;exact (he.lt q hq).1);obtain ⟨A3,c3,rfl⟩:=Zm hv;simp only [Nat.zero_add,Nat.sub_zero,List.nil_append] at hv;clear he hg hvv
   refine hK.out _ _ ?_ (fun hHeld=> ?_)
   ·(try dsimp only);exact ⟨cell_later bq u0,cell_later bq u1,cell_later bq u2,cell_later bq b2⟩
   clear hK K
   try go_frame
   refine Qv 7 (fun K hK=> ?_)
   go_simp
   refine (HCP.out _ (Zb bq bw)).mono ?_;rintro e X3 ⟨v3,rfl,⟨z0,hzd,rfl,hoz⟩,bel⟩;have hzX2:=bq.size;have bq:=Zb bel bq;have hvl:=fun q hq=> (hv.lt q hq).2;have hv:=Zv hv bel (Nat.le_refl _);have hz23:=bel.size;obtain ⟨A5,c5,e5, -⟩:=hoz.own.rd.bytes.open_;obtain ⟨A6,c6,e6, -⟩:=hoz.own.rd.its.open_;have hvz:Qr z0= .agg #[.int .i64 z0.n, .slice A5 z0.b.length c5, .slice A6 z0.items.length c6]:=(by unfold Qr;rw [e5,e6]);rw [hvz]
   (try go_wp2_with fail)
   refine hK.out _ _ ?_ (fun hHeld=> ?_)
   ·(try dsimp only);exact ⟨cell_later bq u0,cell_later bq u1,cell_later bq u2,cell_later bq b2⟩
   clear hK K
   try go_frame
   refine Qv 8 (fun K hK=> ?_)
   (try go_simp)
   obtain ⟨X4,hX4⟩:∃V,V=X3.alloc (.cells #[.int .i64 z0.n, .slice A5 z0.b.length c5, .slice A6 z0.items.length c6] 29):=⟨_,rfl⟩;rw [←hX4];have hal:Below X3.heap.size X3 X4:=(by rw [hX4];exact (Below.refl _ _).alloc (Nat.le_refl _) _);have hv:=Zv hv hal (Nat.le_refl _);have hz4:X4.heap.size≤X3.heap.size+1:=(by rw [hX4];simp);have hz5:X3.heap.size+1≤X4.heap.size:=(by rw [hX4];simp);have hs4:Sl X4 (X3.heap.size+1) 3 (.slice (some ⟨X3.heap.size,0,none⟩) 1 1) 1 (Ze z0):=(by rw [hX4];have:=Vl (W:=X3) (x:=z0) (t:=29) rfl;rw [e5,e6] at this;exact this);have bq:=Zb hal bq;have hoz4:=hoz.keep (Xm.of_below hal 0 0) (.inr (Nat.zero_le _));clear hX4 hal
   refine hK.out _ _ ?_ (fun hHeld=> ?_)
   ·(try dsimp only);exact ⟨cell_later bq u0,cell_later bq u1,cell_later bq u2,cell_later bq b2⟩
   clear hK K
   try go_frame
   refine Qv 9 (fun K hK=> ?_)
   refine Qz _ (.tmp 40) (.tmp 43) 27 rfl w2.heap.size 29 i0 (.agg #[.int .i64 0, .slice none 0 0, .slice none 0 0]) 3 56 underlying27 hi hz0 hz1 hz2 rfl (by decide) _ i _ rfl (by exact hv) _ 1 _ (Ze z0) rfl (by exact hs4) (Om hoz.own) (by omega) (by unfold maxLen;omega) (by have:=bq.size;omega) ?_;intro v5 X5 hv5 hg5 hvv5;have hvl5:=hg5.size;have hoz5:z0.own X2.heap.size X5:=hoz4.own.keep (fun q hq=> hg5.block q (by have:=(hoz4.rng q hq).2;omega) (fun e=> by have e:some q=(Value.slice A3 i c3).ownBlock:=e;have:=hvl q e.symm;have:=(hoz4.rng q hq).1;omega));have bq:=bq.grown hg5 bq.size (by intro q hq;exact (hv.lt q hq).1);obtain ⟨A7,c7,rfl⟩:=Zm hv5
   refine hK.out _ _ ?_ (fun hHeld=> ?_)
   ·(try dsimp only);exact ⟨cell_later bq u0,cell_later bq u1,cell_later bq u2,cell_later bq b2⟩
   clear hK K
   try go_frame
   refine Qv 14 (fun K hK=> ?_)
   refine Qz _ (.tmp 44) (.tmp 48) 27 rfl w2.heap.size 29 i0 (.agg #[.int .i64 0, .slice none 0 0, .slice none 0 0]) 3 56 underlying27 hi hz0 hz1 hz2 rfl (by decide) _ (i+1) _ rfl (by exact hv5) w2.heap.size (ny - i) _ ((y.items.drop i).flatMap Ze) rfl (by exact Sl.below HSR.out bq) HOD.out (by omega) (by unfold maxLen;omega) (by have:=bq.size;omega) ?_;intro v6 X6 hv6 hg6 hvv6;have hvl6:=hg6.size;have bq:=bq.grown hg6 bq.size (by intro q hq;exact (hv5.lt q hq).1);obtain ⟨A8,c8,rfl⟩:=Zm hv6
   refine hK.out _ _ ?_ (fun hHeld=> ?_)
   ·(try dsimp only);exact ⟨cell_later bq u0,cell_later bq u1,cell_later bq u2,cell_later bq b2⟩
   clear hK K
   try go_frame
   refine Zs 15 (some 50) hHeld _ ?_;try go_frame
   refine Tf (fun K hK=> ?_)
   (try go_simp)
   have x2:=cell_later bq b2;have f2:=(bq.frozen (p:=⟨w1.heap.size,2,none⟩) (by show w1.heap.size < _;omega)).trans g2;go_simp
   refine hK.out _ _ ?_
   clear hK K
   try go_frame
   refine Jt (by kernel_rfl) ?_ _
   have hny:=HN.out
   obtain ⟨hyd,hoy,ey1,ey2⟩:=HY.out
   have hcnt:i+1+(ny - i)=ny+1:=by omega
   rw [hcnt] at hv6 hvv6 ⊢
   obtain ⟨g3,cc3,ev3,hg3⟩:=Ql hv6 (by omega)
   have hr6:w2.heap.size≤g3:=(hv6.lt g3 hg3).1
   have hvv5:(Value.slice A7 (i+1) c7).ownBlock=(Value.slice A3 i c3).ownBlock∨(Value.slice A7 (i+1) c7).ownBlock=some X4.heap.size:=hvv5
   have hvv6:(Value.slice A8 (ny+1) c8).ownBlock=(Value.slice A7 (i+1) c7).ownBlock∨(Value.slice A8 (ny+1) c8).ownBlock=some X5.heap.size:=hvv6
   have hz6:z0.own X2.heap.size X6:=hoz5.keep fun q hq=> by
    have hr:=hoz4.rng q hq
    refine hg6.block q (show q < X5.heap.size by omega) (fun e=> ?_)
    have e:some q=(Value.slice A7 (i+1) c7).ownBlock:=e
    rcases hvv5 with h5|h5
    ·rw [h5] at e;have:=hvl q e.symm;omega
    ·rw [h5] at e;have:=Option.some.inj e;omega
   have hg3z:g3 ∉ z0.bks:=fun hq=> by
    have hr:=hoz4.rng g3 hq
    rcases hvv6 with h6|h6
    ·rw [hg3] at h6
     rcases hvv5 with h5|h5
     ·rw [←h6] at h5;have:=hvl g3 h5.symm;omega
     ·rw [←h6] at h5;have:=Option.some.inj h5;omega
    ·rw [hg3] at h6;have:=Option.some.inj h6;omega
   have hyW:y.own W0.heap.size X6:=VM.own_later hoy.own bq
   have hg3y:g3 ∉ y.bks:=fun hq=> by have:=(hoy.rng g3 hq).2;omega
   have hzy:∀q∈z0.bks,q ∉ y.bks:=fun q hq hm=> by have:=(hoy.rng q hm).2;have:=(hoz4.rng q hq).1;omega
   obtain ⟨hN1,hN2⟩:=VM.ins_bks (y:=y) (c:=z0) (i:=i) (vi:= .slice A8 (ny+1) c8) hg3 hg3y hg3z hoy.nd hoz4.nd hzy
   have hown:=VM.ins_own (i:=i) (vi:= .slice A8 (ny+1) c8) hyW (hz6.base (by omega)) (by omega) (by rw [hny];exact Xo hv6 (by omega))
   obtain ⟨z,hz⟩:∃z,z=VM.mk y.n y.b y.vb (.slice A8 (ny+1) c8) (y.items.take i++z0::y.items.drop i):=⟨_,rfl⟩
   rw [←hz] at hN1 hN2 hown
   have hzD:z.d=Ta i p.d FY:=by rw [hz,VM.ins_d,hzd,hyd]
   obtain ⟨X7,hX7⟩:∃X7,X7=X6.setCell ⟨w1.heap.size,2,none⟩ (.slice A8 (ny+1) c8):=⟨_,rfl⟩
   rw [←hX7]
   have hnz:∀q∈z.bks,q≠w1.heap.size:=fun q hq e=> by
    rcases hN2 q hq with h1|h1|h1
    ·omega
    ·have:=(hoz4.rng q h1).1;omega
    ·have:=(hoy.rng q h1).2;omega
   have hzo:z.own W0.heap.size X7:=hown.keep fun q hq=> by rw [hX7];exact Below.heap_setCell _ _ _ _ (hnz q hq)
   have bw7:Below w.heap.size w X7:=by rw [hX7];exact (Zb bq bw).setCell (p:=⟨w1.heap.size,2,none⟩) (by show _≤w1.heap.size;omega) _
   have hz7:X7.heap.size=X6.heap.size:=by rw [hX7];simp
   have ho7:∀(g o:Nat) (u:Value),g≠w1.heap.size→w2.cell? ⟨g,o,none⟩=some u→X7.cell? ⟨g,o,none⟩=some u:=fun g o u hg hu=> by
    rw [hX7,World.cell?_setCell_other _ _ _ _ (by intro e;simp only [Addr.mk.injEq] at e;omega)]
    exact cell_later bq hu
   have s2:=ho7 _ _ _ (by omega) s2
   have q0:=ho7 _ _ _ (by omega) q0
   have q1:=ho7 _ _ _ (by omega) q1
   have q2:=ho7 _ _ _ (by omega) q2
   have k0:X7.cell? ⟨w1.heap.size,0,none⟩=some (.int .i64 y.n):=by rw [hX7,World.cell?_setCell_other _ _ _ _ (by intro e;simp only [Addr.mk.injEq] at e;omega)];exact cell_later bq b0
   have k1:X7.cell? ⟨w1.heap.size,1,none⟩=some (.slice A1 y.b.length c1):=by rw [hX7,World.cell?_setCell_other _ _ _ _ (by intro e;simp only [Addr.mk.injEq] at e;omega)];exact cell_later bq b1
   have k2:X7.cell? ⟨w1.heap.size,2,none⟩=some (.slice A8 (ny+1) c8):=by rw [hX7];exact World.cell?_setCell_same' _ _ _ (by rw [cell_later bq b2];rfl)
   have R6:=RB.later bq
   have R7:B3 X7 (w.heap.size+1+1+1) (.int .i64 0) (.slice none 0 0) (.slice none 0 0):=by
    rw [hX7]
    refine ⟨by simpa using R6.lt,?_,?_,?_,?_,?_,?_⟩
    iterate 3 (rw [World.cell?_setCell_other _ _ _ _ (by intro e;simp only [Addr.mk.injEq] at e;omega)];first|exact R6.c0|exact R6.c1|exact R6.c2)
    all_goals simp only [World.frozen?_setCell]
    ·exact R6.f0
    ·exact R6.f1
    ·exact R6.f2
   have hRz:=HRP.out z X7 bw7 hzo.rd (by rw [hzD,Lg];have:=HPS.out.1;have:=HPS.out.2;omega)
   have hvz:Qr z= .agg #[.int .i64 y.n, .slice A1 y.b.length c1, .slice A8 (ny+1) c8]:=by rw [hz];unfold Qr;simp only [VM.n_mk,VM.vb_mk,VM.vi_mk,ey1]
   rw [hvz,hzD,←HX.out] at hRz
   have HRZ:=Fd hRz
   have hz67:w2.heap.size≤X7.heap.size:=by have:=bq.size;omega
   clear hRz hvz hzo hX7 hz hN1 hN2 hown hzy hg3y hyW hg3z hz6 hvv6 hr6 hg3 ev3 hv6 hg6 bq hv5 hvv5 hg5 hzd hoz hoz4 hoz5 e5 e6 hyd hoy ey1 ey2 ho7 hnz R6 RB hv hvl b0 b1 b2 u0 u1 u2 bel HX HRP HCP HY HYO hs4 bw bqd
   go_wp2_with fail
   refine HRZ.out.mono ?_
   rintro e wc ⟨vc,rfl,hoc,belc⟩
   have HB:=Fd (Zb belc bw7)
   have RB:=R7.later belc
   obtain ⟨Ac,cc,Ac',cc',rfl⟩:=hoc.agg
   have HO:=Fd hoc
   have HZ:=Fd belc.size
   clear hoc belc bw7 s2 q0 q1 q2 k0 k1 k2 R7
   obtain ⟨lt,t0,t1,t2,f0,f1,f2⟩:=RB
   go_wp2
   refine bodyPost_ret (v:= .tuple #[.agg #[.int .i64 f.1.n, .slice Ac f.1.b.length cc, .slice Ac' f.1.items.length cc'], .bool f.2]) (by simp [results,results8,go_sem,t0,t1,t2]) rfl ⟨_,rfl,?_,Qf HB.out (by omega) _ _ _⟩
   have hz:=HZ.out
   refine (HO.out.set3 (g:=w.heap.size+1+1+1) (.inr (by omega)) _ _ _).wide (by omega) (by simp)
end Go.Proofs.YteldgdelmaeokaaGreatDoor
