/- Out of ValSc, ValOc: the walks and plain laws that the claim needs. No condition but those that each theorem names. -/
import Derived.Test.YteldgdelmaeokaaGreatDoorGdk
import Derived.Test.YteldgdelmaeokaaGreatDoorGdj
import Derived.Test.YteldgdelmaeokaaGreatDoorGf
import Derived.WalkSpells
import Derived.WalkLawsBesides
import Derived.Deep.RegionHeld3
set_option linter.unusedSimpArgs false
set_option linter.unusedVariables false
set_option maxHeartbeats 8000000
set_option maxRecDepth 100000
namespace Go.Proofs.YteldgdelmaeokaaGreatDoor
open Go.Proofs.Tryz Go.RowKit
theorem tagIs_any (t s:Int) (g:Nat) (w:World) (hp:w.cell? ⟨g,0,none⟩=some (.int .i64 s)):
  Calls prog 41 #[.int .i64 t, .pointer (some ⟨g,0,none⟩)] w fun e w'=> e= .returned (.bool (t==s))∧w=w':=by
 go_enter func41,ntmps41
 go_wp2
 go_ret
 exact ⟨rfl,rfl⟩
theorem It (v:Value) (l:List Int) (s:Int) (g:Nat) (B:Nat) (w:World) (h:Yt w B v l) (hp:w.cell? ⟨g,0,none⟩=some (.int .i64 s)):
  Calls prog 40 #[v, .func (.func 41) #[] #[.pointer (some ⟨g,0,none⟩)]] w fun e w'=> e= .returned (.int .i64 (Ys (fun j=> l[j]?==some s) l.length))∧w=w':=by
 obtain ⟨A,c,rfl,hc,hm,hcell⟩:=h.one
 have hno:(∀k (hk:k < l.length),l[k]≠s)→Ys (fun j=> l[j]?==some s) l.length= -1:=fun h=> Xd fun k hk=> by rw [List.getElem?_eq_getElem hk];simpa using h k hk
 have hat:∀k (hk:k < l.length),l[k]=s→(∀j (hj:j < k),(l[j]'(by omega))≠s)→Ys (fun j=> l[j]?==some s) l.length=k:=fun k hk h hn=>
  Vp hk (by rw [List.getElem?_eq_getElem hk];simpa using h) fun j hj=> by rw [List.getElem?_eq_getElem (show j < l.length by omega)];simpa using hn j hj
 have HNO:=Fs hno
 have HAT:=Fs hat
 clear hno hat
 generalize Ys (fun j=> l[j]?==some s) l.length=tg at*
 unfold maxLen at hm
 clear h
 go_enter func40,ntmps40
 go_wp2
 go_loopw [5,6,9] (fun _ _ i wr=> wr=w∧∃k:Nat,k≤l.length∧i= .int .i64 k∧Hid (∀q (hq:q < k) (hl:q < l.length),l[q]≠s)) (fun _ _ i _=> l.length - (intOf i).toNat)
 case atStart=> exact ⟨rfl,0,Eb _,rfl,Fs (fun q hq=> by omega)⟩
 case round=>
  obtain ⟨rfl,k,hk,rfl,HN⟩:=hrel
  by_cases hlt:k < l.length
  ·obtain ⟨b,off,rfl,hbB,hc0⟩:=hcell k hlt
   clear hcell
   go_wp2_with fail
   refine (tagIs_any l[k] s g _ hp).mono ?_
   rintro e w1 ⟨rfl,rfl⟩
   cases hh:(l[k]==s)
   ·have HM:=Fs (show ∀q (hq:q < k+1) (hl:q < l.length),l[q]≠s from fun q hq hl=> by
     by_cases e:q=k
     ·subst e;simpa using hh
     ·exact HN.out q (by omega) hl)
    clear hh
    go_wp2
    go_roundw
    case rel=> exact ⟨by trivial,k+1,by omega,by go_num,HM⟩
    case measure=> simp [intOf];omega
   ·have HH:=Fs (HAT.out k hlt (by simpa using hh) (fun q hq=> HN.out q hq (by omega)))
    clear hh
    go_wp2
    go_ret
    exact ⟨Qe HH.out.symm,rfl⟩
  ·clear hcell
   go_wp2
   go_ret
   exact ⟨Qe (HNO.out fun q hq=> HN.out q (by omega) hq).symm,rfl⟩
theorem vm_cells {n:Int} {vb vi:Value} {z:VM} (h: .agg #[.int .i64 n,vb,vi]=Qs z):Ze z= [.int .i64 n,vb,vi]:=by
 unfold Qs at h
 simp only [Value.agg.injEq,Array.mk.injEq,List.cons.injEq,and_true,Value.int.injEq,true_and] at h
 obtain ⟨h1,h2,h3⟩:=h
 unfold Ze
 rw [h1,h2,h3]
theorem below_pc {lo g o:Nat} {w W:World} (h:Below lo w W) (hg:lo≤g) (u0 u1 u2:Value):Below lo w (((W.setCell ⟨g,o,none⟩ u0).setCell ⟨g,o+1,none⟩ u1).setCell ⟨g,o+2,none⟩ u2):=
 ((h.setCell (p:=⟨g,o,none⟩) hg u0).setCell (p:=⟨g,o+1,none⟩) hg u1).setCell (p:=⟨g,o+2,none⟩) hg u2
theorem Vj {g o b i:Nat} {W:World} (hb:b≠g) (u0 u1 u2:Value):(((W.setCell ⟨g,o,none⟩ u0).setCell ⟨g,o+1,none⟩ u1).setCell ⟨g,o+2,none⟩ u2).cell? ⟨b,i,none⟩=W.cell? ⟨b,i,none⟩:=by
 rw [World.cell?_setCell_other _ _ _ _ (by intro e;simp only [Addr.mk.injEq] at e;omega),World.cell?_setCell_other _ _ _ _ (by intro e;simp only [Addr.mk.injEq] at e;omega),World.cell?_setCell_other _ _ _ _ (by intro e;simp only [Addr.mk.injEq] at e;omega)]
theorem selClo_any (vD:Value) (l:List RM) (tag:Int) (gd ga:Nat) (B:Nat) (w:World) (h:Qz w B vD l) (hB:B≤w.heap.size) (hD:Ud (l.map RM.d)) (h9:l.length≤9)
  (d0:w.cell? ⟨gd,0,none⟩=some vD) (a0:w.cell? ⟨ga,0,none⟩=some (.int .i64 tag))
  (x':VM) (S:List ByteArray) (lo g:Nat) (t:List Nat) (y:VM) (k g' o':Nat) (W:World) (hb:Below w.heap.size w W) (hlo:w.heap.size≤lo) (hlg:lo≤g) (hg:g < W.heap.size) (hlW:lo≤W.heap.size) (hbx:Te W lo g 0 x') (hfz:∀i,i < 3→W.frozen? ⟨g,i,none⟩=false) (hpt:Hs (l.map RM.d) x' S W lo g 0 S.length t y k g' o'):
  Calls prog 39 #[.pointer (some ⟨g',o',none⟩), .int .i64 k, .pointer (some ⟨gd,0,none⟩), .pointer (some ⟨ga,0,none⟩)] W (ChE x' t lo g (Vd (l.map RM.d) tag k y.d) W):=by
 have hlm:(l.map RM.d).length=l.length:=List.length_map ..
 have hk:k < l.length:=by have:=hpt.rdi.rng;rwa [hlm] at this
 have hkD:k < (l.map RM.d).length:=by rw [hlm];exact hk
 have hge:(l.map RM.d)[k]=l[k].d:=List.getElem_map ..
 have hR:∀k (hk:k < (l.map RM.d).length),Lk (l.map RM.d) k hk:=fun k hk=> hD.ruK (by rw [hlm];exact h9) hk
 have hik:Xj (l.map RM.d) k 7=decide (l[k].d.kind=7):=by rw [Xr hkD,hge]
 have hgd:gd < w.heap.size:=World.block_lt_of_cell? w _ d0
 have hga:ga < w.heap.size:=World.block_lt_of_cell? w _ a0
 have hgp:g' < W.heap.size:=World.block_lt_of_cell? W _ hpt.c0
 have hlg':lo≤g':=by
  have:=VM.adr_in (g:=g) (o:=0) hpt.sub hbx.own
  rw [hpt.adr] at this
  rcases this with e|e
  ·have e:g'=g:=e
   omega
  ·exact (hbx.own.lt _ e).1
 have hDf:∀q,q < l.length→∀W',Below w.heap.size w W'→Calls prog 42 #[.agg #[vD], .int .i64 q] W' (DvE (l.map RM.d) q W'):=fun q hq W' hw=> Gu l hD h9 q hq vD B W' (h.below (hw.mono hB)) (by have:=hw.size;omega)
 have hTG:Yt W B l[k].vt l[k].d.tags:=(h.below (hb.mono hB)).2 _ (Fw hk)|>.t
 have hKC:∀j (hj:j < l[k].d.kids.length),∃(bk ok:Nat) (A5:Option Addr) (c5:Nat),l[k].vk= .slice A5 l[k].d.kids.length c5∧A5=some ⟨bk,ok,none⟩∧bk < B∧W.cell? ⟨bk,ok+j,none⟩=some (.int .i64 l[k].d.kids[j]):=fun j hj=> by
  obtain ⟨A5,c5,e5, -, -,hc5⟩:=(h.2 _ (Fw hk)).k.one
  obtain ⟨bk,ok,e6,hbk,hc6⟩:=hc5 j hj
  exact ⟨bk,ok,A5,c5,e5,e6,hbk,Zc hc6 (hb.mono hB) hbk⟩
 obtain ⟨A,c,rfl,hc,hm, -⟩:=h.open_
 obtain ⟨b,off,A1,c1,A2,c2,A3,c3,A4,c4,rfl,hbB,e1,e2,e3,e4,m1,m2,m3,m4,hcell⟩:=Zw h k hk
 rw [e3] at hTG
 rw [e4] at hKC
 obtain ⟨x0,x1,x2,x3,x4,x5,x6,x7⟩:=hcell W (Zu hb hB)
 have d0:=Ec hb d0
 have a0:=Ec hb a0
 obtain ⟨W1,hW1⟩:∃W1,W1=W.alloc (.cells #[.string l[k].d.name, .int .i64 l[k].d.kind, .int .i64 l[k].d.size, .bool l[k].d.little, .slice A1 l[k].d.bytes.length c1, .slice A2 l[k].d.names.length c2, .slice A3 l[k].d.tags.length c3, .slice A4 l[k].d.kids.length c4] 50):=⟨_,rfl⟩
 have b1:Below W.heap.size W W1:=by rw [hW1];exact (Fv _ _).alloc (Fu _) _
 have Kr:Zo W1 W.heap.size 50 #[.string l[k].d.name, .int .i64 l[k].d.kind, .int .i64 l[k].d.size, .bool l[k].d.little, .slice A1 l[k].d.bytes.length c1, .slice A2 l[k].d.names.length c2, .slice A3 l[k].d.tags.length c3, .slice A4 l[k].d.kids.length c4]:=by rw [hW1];exact Zo.new W _ _
 have hz1:W.heap.size < W1.heap.size:=Kr.lt
 have hbw:=hb.size
 have HTG:=Fs (hTG.below (b1.mono (by omega)))
 have HKC:=Fs hKC
 have HDF:=Fs hDf
 have HBX:=Fs (Ft hbx (Ft hfz hpt))
 have HB:=Fs (Ft hb b1)
 have HLO:=Fs (Ft hlo (Ft hlg (Ft hg hlW)))
 have HRR:=Fs hR
 have KR:=Fs Kr
 unfold maxLen at hm m3 m4
 clear hTG hKC hDf hbx hfz hpt h hb hg hR hcell hD e1 e2 e3 e4
 go_enter func39,ntmps39
 go_upto_region 2 with fail
 rw [←hW1]
 have dW:=d0
 have aW:=a0
 have d0:=Ec b1 d0
 have a0:=Ec b1 a0
 clear hW1 x0 x1 x2 x3 x4 x5 x6 x7
 obtain ⟨⟨t0,t1,t2,t3,t4,t5,t6,t7⟩, -⟩:=Kr.c8
 clear Kr b1
 by_cases hkd:l[k].d.kind=7
 ·have HKD:=Fs hkd
  rw [hkd] at t1
  clear hkd
  rcases item_7 HRR.out hkD (by rw [hge];exact HKD.out) tag with ⟨ht,hi⟩|⟨j,q,h1,h2,ht,htg,hq,hqk,hi⟩
  ·rw [hge] at ht
   have HC:=Fs (show Vd (l.map RM.d) tag k y.d=none by unfold Vd;rw [if_neg];rw [hi];simp)
   clear hi
   go_wp2_with fail
   refine (It _ l[k].d.tags tag ga B W1 HTG.out a0).mono ?_
   rintro e w2 ⟨rfl,rfl⟩
   rw [show Ys (fun j=> l[k].d.tags[j]?==some tag) l[k].d.tags.length=Tn l[k].d tag from rfl,ht]
   go_wp2
   go_ret
   exact ⟨HB.out.2.mono hlW, .inl ⟨HC.out,rfl⟩⟩
  ·rw [hge] at ht
   simp only [hge] at h2 hq
   have HC:=Fs (show Vd (l.map RM.d) tag k y.d=some (.mk tag [] [Jw (l.map RM.d) q]) by
    unfold Vd selV
    rw [if_pos (by rw [hi,hik];simp [HKD.out]),hi,Int.toNat_natCast])
   obtain ⟨bk,ok,A5,c5,e5,e6,hbk,hkc⟩:=HKC.out (j+1) h2
   simp only [Value.slice.injEq] at e5
   obtain ⟨rfl, -,rfl⟩:=e5
   subst e6
   rw [hq] at hkc
   have hk1:=Ec HB.out.2 hkc
   have hbkw:bk < w.heap.size:=by omega
   have hjw:IntKind.i64.wrap ((j:Int)+1)=((j:Int)+1):=IntWalk.i64_in _ (by omega)
   have hj0:(0:Int)≤(j:Int)+1:=by omega
   have hji:((j:Int)+1) < (l[k].d.kids.length:Int):=by omega
   have HDQ:=Fs (HDF.out q (by omega))
   have bq:=(Fv W1.heap.size W1).drew
   have HB2:=Fs (show Below w.heap.size w W1 from HB.out.1.trans (HB.out.2.mono hbw))
   clear hi hkc hq htg
   go_wp2_with fail
   refine (It _ l[k].d.tags tag ga B W1 HTG.out a0).mono ?_
   rintro e w2 ⟨rfl,rfl⟩
   rw [show Ys (fun j=> l[k].d.tags[j]?==some tag) l[k].d.tags.length=Tn l[k].d tag from rfl,ht]
   go_wp2_with fail
   refine wp_region_held_drew (S:=(fun w9=> w9.cell? ⟨gd,0,none⟩=some (.slice (some ⟨b,off,none⟩) l.length c)∧w9.cell? ⟨ga,0,none⟩=some (.int .i64 tag)∧w9.cell? ⟨W.heap.size,7,none⟩=some (.slice (some ⟨bk,ok,none⟩) l[k].d.kids.length c4)∧w9.cell? ⟨bk,ok+(j+1),none⟩=some (.int .i64 q))) (by kernel_rfl) ?_ (fun hHeld=> ?_)
   ·(try dsimp only);exact ⟨d0,a0,t7,hk1⟩
   refine Za 0 (some 23) hHeld _ ?_;try go_frame
   refine Za 1 (some 24) hHeld _ ?_;try go_frame
   refine Za 2 (some 25) hHeld _ ?_;try go_frame
   refine Za 3 (some 26) hHeld _ ?_;try go_frame
   refine Za 4 (some 27) hHeld _ ?_;try go_frame
   refine Za 5 (some 28) hHeld _ ?_;try go_frame
   refine Za 6 (some 29) hHeld _ ?_;try go_frame
   refine Za 7 (some 30) hHeld _ ?_;try go_frame
   refine Za 8 (some 31) hHeld _ ?_;try go_frame
   refine Zh 9 (fun K hK=> ?_)
   go_simp
   refine (HDQ.out _ (Zb bq (show Below w.heap.size w W1 from HB2.out))).mono ?_;rintro e5 w5 ⟨x,rfl,hxo,hxs,bel⟩;obtain ⟨A5,c5,e5, -⟩:=hxo.own.rd.bytes.open_;obtain ⟨A6,c6,e6, -⟩:=hxo.own.rd.its.open_;unfold Qs;rw [e5,e6];have hz5:=bq.size;have bq:=Zb bel bq;have HXO:=Fs (Ft hxo (Ft hxs (Ft e5 e6)));clear hxo hxs e5 e6
   (try go_wp2_with fail)
   refine hK.out _ _ ?_ (fun hHeld=> ?_)
   ·(try dsimp only);first|exact ⟨Ec bq d0,Ec bq a0,Ec bq t7,Ec bq hk1⟩|exact ⟨(Vj (by omega) _ _ _).trans (Ec bq d0),(Vj (by omega) _ _ _).trans (Ec bq a0),(Vj (by omega) _ _ _).trans (Ec bq t7),(Vj (by omega) _ _ _).trans (Ec bq hk1)⟩
   clear hK K
   try go_frame
   refine Zh 10 (fun K hK=> ?_)
   (try go_simp)
   obtain ⟨X3,hX3⟩:∃V,V=w5.alloc (.cells #[.int .i64 x.n, .slice A5 x.b.length c5, .slice A6 x.items.length c6] 29):=⟨_,rfl⟩;rw [←hX3];have hbl:Below w5.heap.size w5 X3:=(by rw [hX3];exact (Fv _ _).alloc (Fu _) _);have hbk3:Zo X3 w5.heap.size 29 (Ze x).toArray:=(by rw [hX3];unfold Ze;rw [HXO.out.2.2.1,HXO.out.2.2.2];exact Zo.new w5 _ _);have HG:=Fs ((Qg.one (lo:=W1.heap.size) (o:=0) (hi:=W1.heap.size) hbk3 (HXO.out.1.keep (Xq.of_below hbl 0 0) (.inr (Eb _))) (show W1.heap.size≤W1.drew.heap.size by exact Fu _) (by exact Fu _) (by have:=bq.size;omega) (by omega)).fin tag);have bq:=Zb hbl bq;have hb3:=HB.out.2.trans (bq.mono (by omega));have x0:=Ec hb3 HBX.out.2.2.c0;have x1:=Ec hb3 HBX.out.2.2.c1;have x2:=Ec hb3 HBX.out.2.2.c2;have fz:=Hs.frozen HBX.out.1 HBX.out.2.1 HBX.out.2.2;have f0:=(hb3.frozen (p:=⟨g',o',none⟩) hgp).trans (fz 0 (by omega));have f1:=(hb3.frozen (p:=⟨g',o'+1,none⟩) hgp).trans (fz 1 (by omega));have f2:=(hb3.frozen (p:=⟨g',o'+2,none⟩) hgp).trans (fz 2 (by omega));have HB3:=Fs hb3;clear hX3 hbl hbk3 hb3 fz
   refine hK.out _ _ ?_ (fun hHeld=> ?_)
   ·(try dsimp only);first|exact ⟨Ec bq d0,Ec bq a0,Ec bq t7,Ec bq hk1⟩|exact ⟨(Vj (by omega) _ _ _).trans (Ec bq d0),(Vj (by omega) _ _ _).trans (Ec bq a0),(Vj (by omega) _ _ _).trans (Ec bq t7),(Vj (by omega) _ _ _).trans (Ec bq hk1)⟩
   clear hK K
   try go_frame
   refine Za 11 (some 34) hHeld _ ?_;try go_frame
   refine Za 12 (some 35) hHeld _ ?_;try go_frame
   refine Zh 13 (fun K hK=> ?_)
   (try go_simp)
   go_simp
   refine hK.out _ _ ?_ (fun hHeld=> ?_)
   ·(try dsimp only);first|exact ⟨Ec bq d0,Ec bq a0,Ec bq t7,Ec bq hk1⟩|exact ⟨(Vj (by omega) _ _ _).trans (Ec bq d0),(Vj (by omega) _ _ _).trans (Ec bq a0),(Vj (by omega) _ _ _).trans (Ec bq t7),(Vj (by omega) _ _ _).trans (Ec bq hk1)⟩
   clear hK K
   try go_frame
   refine wpAnyH_done (by kernel_rfl) ?_ _
   obtain ⟨z,hzd,hzv,hzo⟩:=HG.out
   obtain ⟨h3,h4⟩:=Te.set HBX.out.1 hlg HBX.out.2.2 HB3.out (z:=z) (hzo.own.base (by omega)) hzo.nd (fun q hq=> .inl (by have:=(hzo.rng q hq).1;omega)) (fun hq=> by have:=(hzo.rng g hq).1;have:=HLO.out.2.2.1;omega)
   rw [vm_cells hzv] at h3
   have HF:=Fs (Ft h3 (Ft (below_pc (o:=o') (HB3.out.mono hlW) h4 (.int .i64 tag) (.slice none 0 0) (.slice (some ⟨w5.heap.size,0,none⟩) 1 1)) (show z.d= .mk tag [] [Jw (l.map RM.d) q] by rw [hzd,List.map_cons,List.map_nil,HXO.out.2.1])))
   clear h3 h4 hzd hzv hzo bq d0 a0 t7 hk1 x0 x1 x2 f0 f1 f2 hHeld
   go_wp2
   go_ret
   exact ⟨HF.out.2.1, .inr ⟨z,rfl,by rw [HF.out.2.2];exact HC.out,HF.out.1⟩⟩
 ·have HC:=Fs (show Vd (l.map RM.d) tag k y.d=none by unfold Vd;rw [if_neg];rw [hik];simp [hkd])
  have hkb:(l[k].d.kind==7)=false:=by simp [hkd]
  clear hik
  generalize l[k].d.kind=kq at*
  go_wp2
  go_ret
  exact ⟨HB.out.2.mono hlW, .inl ⟨HC.out,rfl⟩⟩
theorem one_bks {y x:VM} {g a:Nat} {vi:Value} (hv:vi.ownBlock=some g) (hy:y.bks.Nodup) (hx:x.bks.Nodup) (h1:∀k∈y.bks,k < a) (h2:∀k∈x.bks,a≤k∧k < g) (ha:a≤g):
  (VM.mk y.n y.b y.vb vi [x]).bks.Nodup∧∀k∈(VM.mk y.n y.b y.vb vi [x]).bks,a≤k∨k∈y.bks:=by
 have hL:y.vb.ownBlock.toList.Nodup∧∀k∈y.vb.ownBlock.toList,k∈y.bks:=by
  rw [VM.bks_eq y] at hy ⊢
  exact ⟨(List.nodup_append.1 hy).1,fun k hk=> List.mem_append_left _ hk⟩
 rw [VM.bks_mk,VM.bkss_cons,VM.bkss_nil,hv,List.append_nil]
 generalize y.vb.ownBlock.toList=L at*
 refine ⟨?_,fun k hk=> ?_⟩
 ·rw [List.nodup_append]
  refine ⟨hL.1,?_,fun p hp q hq e=> ?_⟩
  ·show (g::x.bks).Nodup
   rw [List.nodup_cons]
   exact ⟨fun h=> by have:=(h2 _ h).2;omega,hx⟩
  ·subst e
   have:=h1 _ (hL.2 _ hp)
   have hq:p∈g::x.bks:=hq
   rcases List.mem_cons.1 hq with e|e
   ·omega
   ·have:=(h2 _ e).1;omega
 ·rcases List.mem_append.1 hk with h|h
  ·exact .inr (hL.2 _ h)
  ·have h:k∈g::x.bks:=h
   rcases List.mem_cons.1 h with e|e
   ·exact .inl (by omega)
   ·exact .inl (h2 _ e).1
theorem none_bks {y:VM} (hy:y.bks.Nodup):(VM.mk y.n y.b y.vb (.slice none 0 0) []).bks.Nodup∧∀k∈(VM.mk y.n y.b y.vb (.slice none 0 0) []).bks,k∈y.bks:=by
 rw [VM.bks_eq y] at hy ⊢
 rw [VM.bks_mk,VM.bkss_nil]
 have e:(Value.slice none 0 0).ownBlock.toList++([]:List Nat)= []:=rfl
 rw [e,List.append_nil]
 exact ⟨(List.nodup_append.1 hy).1,fun k hk=> List.mem_append_left _ hk⟩
theorem Gd {W:World} {g o:Nat} {n:Int} {vb:Value} (h0:W.cell? ⟨g,o,none⟩=some (.int .i64 n)) (h1:W.cell? ⟨g,o+1,none⟩=some vb) (u:Value) (b:List UInt8) (l:List VM):Qu W g o (Ze (.mk n b vb u l))=W.setCell ⟨g,o+2,none⟩ u:=by
 show ((W.setCell ⟨g,o,none⟩ (.int .i64 n)).setCell ⟨g,o+1,none⟩ vb).setCell ⟨g,o+2,none⟩ u=_
 rw [Vx h0,Vx h1]
theorem put_self {W:World} {g o:Nat} {y:VM} (h0:W.cell? ⟨g,o,none⟩=some (.int .i64 y.n)) (h1:W.cell? ⟨g,o+1,none⟩=some y.vb) (h2:W.cell? ⟨g,o+2,none⟩=some y.vi):Qu W g o (Ze y)=W:=by
 show ((W.setCell ⟨g,o,none⟩ (.int .i64 y.n)).setCell ⟨g,o+1,none⟩ y.vb).setCell ⟨g,o+2,none⟩ y.vi=_
 rw [Vx h0,Vx h1,Vx h2]
theorem optClo_any (vD:Value) (l:List RM) (pr:Bool) (gd ga:Nat) (B:Nat) (w:World) (h:Qz w B vD l) (hB:B≤w.heap.size) (hD:Ud (l.map RM.d)) (h9:l.length≤9)
  (d0:w.cell? ⟨gd,0,none⟩=some vD) (a0:w.cell? ⟨ga,0,none⟩=some (.bool pr))
  (x':VM) (S:List ByteArray) (lo g:Nat) (t:List Nat) (y:VM) (k g' o':Nat) (W:World) (hb:Below w.heap.size w W) (hlo:w.heap.size≤lo) (hlg:lo≤g) (hg:g < W.heap.size) (hlW:lo≤W.heap.size) (hbx:Te W lo g 0 x') (hfz:∀i,i < 3→W.frozen? ⟨g,i,none⟩=false) (hpt:Hs (l.map RM.d) x' S W lo g 0 S.length t y k g' o'):
  Calls prog 46 #[.pointer (some ⟨g',o',none⟩), .int .i64 k, .pointer (some ⟨gd,0,none⟩), .pointer (some ⟨ga,0,none⟩)] W (ChE x' t lo g (Uf (l.map RM.d) pr k y.d) W):=by
 have hlm:(l.map RM.d).length=l.length:=List.length_map ..
 have hk:k < l.length:=by have:=hpt.rdi.rng;rwa [hlm] at this
 have hkD:k < (l.map RM.d).length:=by rw [hlm];exact hk
 have hge:(l.map RM.d)[k]=l[k].d:=List.getElem_map ..
 have hR:∀k (hk:k < (l.map RM.d).length),Lk (l.map RM.d) k hk:=fun k hk=> hD.ruK (by rw [hlm];exact h9) hk
 have hik:Xj (l.map RM.d) k 8=decide (l[k].d.kind=8):=by rw [Xr hkD,hge]
 have hgd:gd < w.heap.size:=World.block_lt_of_cell? w _ d0
 have hga:ga < w.heap.size:=World.block_lt_of_cell? w _ a0
 have hgp:g' < W.heap.size:=World.block_lt_of_cell? W _ hpt.c0
 have hlg':lo≤g':=by
  have:=VM.adr_in (g:=g) (o:=0) hpt.sub hbx.own
  rw [hpt.adr] at this
  rcases this with e|e
  ·have e:g'=g:=e
   omega
  ·exact (hbx.own.lt _ e).1
 have hDf:∀q,q < l.length→∀W',Below w.heap.size w W'→Calls prog 42 #[.agg #[vD], .int .i64 q] W' (DvE (l.map RM.d) q W'):=fun q hq W' hw=> Gu l hD h9 q hq vD B W' (h.below (hw.mono hB)) (by have:=hw.size;omega)
 have hTG:Yt W B l[k].vt l[k].d.tags:=(h.below (hb.mono hB)).2 _ (Fw hk)|>.t
 have hKC:∀j (hj:j < l[k].d.kids.length),∃(bk ok:Nat) (A5:Option Addr) (c5:Nat),l[k].vk= .slice A5 l[k].d.kids.length c5∧A5=some ⟨bk,ok,none⟩∧bk < B∧W.cell? ⟨bk,ok+j,none⟩=some (.int .i64 l[k].d.kids[j]):=fun j hj=> by
  obtain ⟨A5,c5,e5, -, -,hc5⟩:=(h.2 _ (Fw hk)).k.one
  obtain ⟨bk,ok,e6,hbk,hc6⟩:=hc5 j hj
  exact ⟨bk,ok,A5,c5,e5,e6,hbk,Zc hc6 (hb.mono hB) hbk⟩
 obtain ⟨A,c,rfl,hc,hm, -⟩:=h.open_
 obtain ⟨b,off,A1,c1,A2,c2,A3,c3,A4,c4,rfl,hbB,e1,e2,e3,e4,m1,m2,m3,m4,hcell⟩:=Zw h k hk
 rw [e3] at hTG
 rw [e4] at hKC
 obtain ⟨x0,x1,x2,x3,x4,x5,x6,x7⟩:=hcell W (Zu hb hB)
 have d0:=Ec hb d0
 have a0:=Ec hb a0
 obtain ⟨W1,hW1⟩:∃W1,W1=W.alloc (.cells #[.string l[k].d.name, .int .i64 l[k].d.kind, .int .i64 l[k].d.size, .bool l[k].d.little, .slice A1 l[k].d.bytes.length c1, .slice A2 l[k].d.names.length c2, .slice A3 l[k].d.tags.length c3, .slice A4 l[k].d.kids.length c4] 50):=⟨_,rfl⟩
 have b1:Below W.heap.size W W1:=by rw [hW1];exact (Fv _ _).alloc (Fu _) _
 have Kr:Zo W1 W.heap.size 50 #[.string l[k].d.name, .int .i64 l[k].d.kind, .int .i64 l[k].d.size, .bool l[k].d.little, .slice A1 l[k].d.bytes.length c1, .slice A2 l[k].d.names.length c2, .slice A3 l[k].d.tags.length c3, .slice A4 l[k].d.kids.length c4]:=by rw [hW1];exact Zo.new W _ _
 have hz1:W.heap.size < W1.heap.size:=Kr.lt
 have hbw:=hb.size
 have HTG:=Fs (hTG.below (b1.mono (by omega)))
 have HKC:=Fs hKC
 have HDF:=Fs hDf
 have HBX:=Fs (Ft hbx (Ft hfz hpt))
 have HB:=Fs (Ft hb b1)
 have HLO:=Fs (Ft hlo (Ft hlg (Ft hg hlW)))
 have HRR:=Fs hR
 have KR:=Fs Kr
 unfold maxLen at hm m3 m4
 clear hTG hKC hDf hbx hfz hpt h hb hg hR hcell hD e1 e2 e3 e4
 go_enter func46,ntmps46
 go_upto_region 2 with fail
 rw [←hW1]
 have dW:=d0
 have aW:=a0
 have d0:=Ec b1 d0
 have a0:=Ec b1 a0
 clear hW1 x0 x1 x2 x3 x4 x5 x6 x7
 obtain ⟨⟨t0,t1,t2,t3,t4,t5,t6,t7⟩, -⟩:=Kr.c8
 clear Kr b1
 by_cases hkd:l[k].d.kind=8
 ·have HKD:=Fs hkd
  rw [hkd] at t1
  clear hkd
  have hON:=Fs (show Uf (l.map RM.d) pr k y.d=some (Ts (l.map RM.d) pr k y.d) by unfold Uf;rw [if_pos (by rw [hik];simp [HKD.out])])
  have hyl:y.d.items.length=y.items.length:=by rw [VM.items_d,List.length_map]
  have hyN:=Fs (show y.bks.Nodup from by
   obtain ⟨rest,hr1, -⟩:=VM.bks_put HBX.out.2.2.sub
   exact (List.nodup_append.1 (hr1.nodup_iff.1 HBX.out.1.nd)).1)
  have hyO:=Fs (show y.own lo W1 from VM.own_later HBX.out.2.2.own HB.out.2)
  have hgy:=Fs (show g ∉ y.bks from fun hq=> HBX.out.1.out (VM.bks_sub HBX.out.2.2.sub hq))
  obtain ⟨Az,cz,ez, -,hmz, -⟩:=HBX.out.2.2.own.rd.its.open_
  have x0:=Ec HB.out.2 HBX.out.2.2.c0
  have x1:=Ec HB.out.2 HBX.out.2.2.c1
  have x2:=Ec HB.out.2 HBX.out.2.2.c2
  have X012:=Fs (Ft x0 (Ft x1 x2))
  rw [ez] at x2
  have f2:=(HB.out.2.frozen (p:=⟨g',o'+2,none⟩) hgp).trans (Hs.frozen HBX.out.1 HBX.out.2.1 HBX.out.2.2 2 (by omega))
  clear hik
  cases pr with
  |false=>
   obtain ⟨z,hz⟩:∃z,z=VM.mk y.n y.b y.vb (.slice none 0 0) []:=⟨_,rfl⟩
   have hzb:=none_bks hyN.out
   rw [←hz] at hzb
   obtain ⟨h3,h4⟩:=Te.set HBX.out.1 hlg HBX.out.2.2 HB.out.2 (z:=z) (by rw [hz];exact .mk hyO.out.bytes (World.ownsRow_nil _ _ _ _) (by simp)) hzb.1 (fun q hq=> .inr (hzb.2 q hq)) (fun hq=> hgy.out (hzb.2 g hq))
   rw [hz,Gd X012.out.1 X012.out.2.1] at h3
   rw [←hz] at h3
   have HF:=Fs (Ft h3 (Ft ((HB.out.2.mono hlW).setCell (p:=⟨g',o'+2,none⟩) h4 (.slice none 0 0)) (show Ts (l.map RM.d) false k y.d=z.d by rw [hz,VM.d_mk,List.map_nil];unfold Ts;rw [VM.n_d,VM.b_d];rfl)))
   clear h3 h4 hzb hz x0 x1 t0 t2 t3 t4 t5 t6 t7 d0
   go_wp2
   go_ret
   exact ⟨HF.out.2.1, .inr ⟨z,rfl,by rw [←HF.out.2.2];exact hON.out,HF.out.1⟩⟩
  |true=>
   by_cases hy0:y.items.length=0
   ·obtain ⟨h2, -⟩:=val8 (HRR.out k hkD) (by rw [hge];exact HKD.out)
    have h2:0 < l[k].d.kids.length:=by rwa [hge] at h2
    obtain ⟨q,hq,hqk⟩:=(HRR.out k hkD).kidN (j:=0) (by rw [hge];exact h2)
    simp only [hge] at hq
    obtain ⟨bk,ok,A5,c5,e5,e6,hbk,hkc⟩:=HKC.out 0 h2
    simp only [Value.slice.injEq] at e5
    obtain ⟨rfl, -,rfl⟩:=e5
    subst e6
    rw [hq,Nat.add_zero] at hkc
    have HPV:=Fs (show Ts (l.map RM.d) true k y.d= .mk y.n y.b [Jw (l.map RM.d) q] by
     unfold Ts
     rw [if_pos rfl,if_pos (by rw [hyl];exact hy0),Mh hkD,hge,Jb _ _ h2,hq,Int.toNat_natCast,VM.n_d,VM.b_d])
    have hk1:=Ec HB.out.2 hkc
    have hbkw:bk < w.heap.size:=by omega
    have hji:(0:Int) < (l[k].d.kids.length:Int):=by omega
    have HDQ:=Fs (HDF.out q (by omega))
    have bq:=(Fv W1.heap.size W1).drew
    have HB2:=Fs (show Below w.heap.size w W1 from HB.out.1.trans (HB.out.2.mono hbw))
    rw [hy0] at x2
    clear hkc hq x0 x1 hyl hy0 ez
    go_wp2_with fail
    refine wp_region_held_drew (S:=(fun w9=> w9.cell? ⟨gd,0,none⟩=some (.slice (some ⟨b,off,none⟩) l.length c)∧w9.cell? ⟨W.heap.size,7,none⟩=some (.slice (some ⟨bk,ok,none⟩) l[k].d.kids.length c4)∧w9.cell? ⟨bk,ok,none⟩=some (.int .i64 q))) (by kernel_rfl) ?_ (fun hHeld=> ?_)
    ·(try dsimp only);exact ⟨d0,t7,hk1⟩
    refine Za 0 (some 29) hHeld _ ?_;try go_frame
    refine Za 1 (some 30) hHeld _ ?_;try go_frame
    refine Za 2 (some 31) hHeld _ ?_;try go_frame
    refine Za 3 (some 32) hHeld _ ?_;try go_frame
    refine Za 4 (some 33) hHeld _ ?_;try go_frame
    refine Za 5 (some 34) hHeld _ ?_;try go_frame
    refine Zh 6 (fun K hK=> ?_)
    go_simp
    refine (HDQ.out _ (Zb bq (show Below w.heap.size w W1 from HB2.out))).mono ?_;rintro e5 w5 ⟨x,rfl,hxo,hxs,bel⟩;obtain ⟨A5,c5,e5, -⟩:=hxo.own.rd.bytes.open_;obtain ⟨A6,c6,e6, -⟩:=hxo.own.rd.its.open_;unfold Qs;rw [e5,e6];have hz5:=bq.size;have bq:=Zb bel bq;have hz6:=bq.size;have HXO:=Fs (Ft hxo (Ft hxs (Ft e5 e6)));clear hxo hxs e5 e6
    (try go_wp2_with fail)
    refine hK.out _ _ ?_ (fun hHeld=> ?_)
    ·(try dsimp only);first|exact ⟨Ec bq d0,Ec bq t7,Ec bq hk1⟩|exact ⟨(World.cell?_setCell_other _ _ _ _ (by intro e;simp only [Addr.mk.injEq] at e;omega)).trans (Ec bq d0),(World.cell?_setCell_other _ _ _ _ (by intro e;simp only [Addr.mk.injEq] at e;omega)).trans (Ec bq t7),(World.cell?_setCell_other _ _ _ _ (by intro e;simp only [Addr.mk.injEq] at e;omega)).trans (Ec bq hk1)⟩
    clear hK K
    try go_frame
    refine Zh 7 (fun K hK=> ?_)
    (try go_simp)
    obtain ⟨X3,hX3⟩:∃V,V=w5.alloc (.cells #[.int .i64 x.n, .slice A5 x.b.length c5, .slice A6 x.items.length c6] 29):=⟨_,rfl⟩;rw [←hX3];have hbl:Below w5.heap.size w5 X3:=(by rw [hX3];exact (Fv _ _).alloc (Fu _) _);have hbk3:Zo X3 w5.heap.size 29 (Ze x).toArray:=(by rw [hX3];unfold Ze;rw [HXO.out.2.2.1,HXO.out.2.2.2];exact Zo.new w5 _ _);have hx3:=HXO.out.1.keep (Xq.of_below hbl 0 0) (.inr (Eb _));have HG:=Fs (Ft (Qg.one (lo:=W1.heap.size) (o:=0) (hi:=W1.heap.size) hbk3 hx3 (show W1.heap.size≤W1.drew.heap.size by exact Fu _) (by exact Fu _) (by have:=bq.size;omega) (by omega)).row hx3);have bq:=Zb hbl bq;have hb3:=HB.out.2.trans (bq.mono (by omega));have x0:=Ec hb3 HBX.out.2.2.c0;have x1:=Ec hb3 HBX.out.2.2.c1;have x2:=Ec hb3 HBX.out.2.2.c2;have f2:=(hb3.frozen (p:=⟨g',o'+2,none⟩) hgp).trans (Hs.frozen HBX.out.1 HBX.out.2.1 HBX.out.2.2 2 (by omega));have HB3:=Fs hb3;clear hX3 hbl hbk3 hb3 hx3
    refine hK.out _ _ ?_ (fun hHeld=> ?_)
    ·(try dsimp only);first|exact ⟨Ec bq d0,Ec bq t7,Ec bq hk1⟩|exact ⟨(World.cell?_setCell_other _ _ _ _ (by intro e;simp only [Addr.mk.injEq] at e;omega)).trans (Ec bq d0),(World.cell?_setCell_other _ _ _ _ (by intro e;simp only [Addr.mk.injEq] at e;omega)).trans (Ec bq t7),(World.cell?_setCell_other _ _ _ _ (by intro e;simp only [Addr.mk.injEq] at e;omega)).trans (Ec bq hk1)⟩
    clear hK K
    try go_frame
    refine Za 8 (some 37) hHeld _ ?_;try go_frame
    refine Za 9 (some 38) hHeld _ ?_;try go_frame
    refine Zh 10 (fun K hK=> ?_)
    (try go_simp)
    go_simp
    refine hK.out _ _ ?_ (fun hHeld=> ?_)
    ·(try dsimp only);first|exact ⟨Ec bq d0,Ec bq t7,Ec bq hk1⟩|exact ⟨(World.cell?_setCell_other _ _ _ _ (by intro e;simp only [Addr.mk.injEq] at e;omega)).trans (Ec bq d0),(World.cell?_setCell_other _ _ _ _ (by intro e;simp only [Addr.mk.injEq] at e;omega)).trans (Ec bq t7),(World.cell?_setCell_other _ _ _ _ (by intro e;simp only [Addr.mk.injEq] at e;omega)).trans (Ec bq hk1)⟩
    clear hK K
    try go_frame
    refine wpAnyH_done (by kernel_rfl) ?_ _
    obtain ⟨hgi,hx3⟩:=HG.out
    obtain ⟨z,hz⟩:∃z,z=VM.mk y.n y.b y.vb (.slice (some ⟨w5.heap.size,0,none⟩) 1 1) [x]:=⟨_,rfl⟩
    have hzb:=one_bks (y:=y) (x:=x) (g:=w5.heap.size) (a:=W.heap.size) (vi:= .slice (some ⟨w5.heap.size,0,none⟩) 1 1) rfl hyN.out hx3.nd (fun k hk=> (HBX.out.2.2.own.lt k hk).2) (fun k hk=> by have:=hx3.rng k hk;have e:W1.drew.heap.size=W1.heap.size:=rfl;omega) (by omega)
    rw [←hz] at hzb
    obtain ⟨h3,h4⟩:=Te.set HBX.out.1 hlg HBX.out.2.2 HB3.out (z:=z) (by rw [hz];exact .mk (VM.own_later HBX.out.2.2.own HB3.out).bytes (Ve hgi (by omega)) (fun y' hy'=> by simp only [List.mem_singleton] at hy';subst hy';exact hx3.own.base (by have e:W1.drew.heap.size=W1.heap.size:=rfl;omega))) hzb.1 (fun q hq=> hzb.2 q hq) (fun hq=> (hzb.2 g hq).elim (fun e=> by have:=HLO.out.2.2.1;omega) (fun e=> hgy.out e))
    rw [hz,Gd x0 x1] at h3
    rw [←hz] at h3
    have HF:=Fs (Ft h3 (Ft ((HB3.out.mono hlW).setCell (p:=⟨g',o'+2,none⟩) h4 (.slice (some ⟨w5.heap.size,0,none⟩) 1 1)) (show Ts (l.map RM.d) true k y.d=z.d by rw [HPV.out,hz,VM.d_mk,List.map_cons,List.map_nil,HXO.out.2.1])))
    clear h3 h4 hzb hz hgi hx3 bq d0 t7 hk1 x0 x1 x2 f2 hHeld
    go_wp2
    go_ret
    exact ⟨HF.out.2.1, .inr ⟨z,rfl,by rw [←HF.out.2.2];exact hON.out,HF.out.1⟩⟩
   ·obtain ⟨h3,h4⟩:=Te.set HBX.out.1 hlg HBX.out.2.2 HB.out.2 (z:=y) hyO.out hyN.out (fun q hq=> .inr hq) hgy.out
    rw [put_self X012.out.1 X012.out.2.1 X012.out.2.2] at h3
    have HF:=Fs (Ft h3 (show Ts (l.map RM.d) true k y.d=y.d by unfold Ts;rw [if_pos rfl,if_neg (by rw [hyl];exact hy0)]))
    have hyi:((y.items.length:Int)==0)=false:=by rw [beq_eq_false_iff_ne];omega
    clear h3 h4 x0 x1
    go_wp2
    go_ret
    exact ⟨HB.out.2.mono hlW, .inr ⟨y,rfl,by rw [HF.out.2] at hON;exact hON.out,HF.out.1⟩⟩
 ·have HC:=Fs (show Uf (l.map RM.d) pr k y.d=none by unfold Uf;rw [if_neg];rw [hik];simp [hkd])
  have hkb:(l[k].d.kind==8)=false:=by simp [hkd]
  clear hik
  generalize l[k].d.kind=kq at*
  go_wp2
  go_ret
  exact ⟨HB.out.2.mono hlW, .inl ⟨HC.out,rfl⟩⟩
end Go.Proofs.YteldgdelmaeokaaGreatDoor
