/- The walk of impl.editPart with the closure of editTwo_any. Conditions: the description reads as its rules, which are small; the value reads as its data and is small; the text has at most 2^21 bytes; the closure's own contract. -/
import Derived.Test.YteldgdelmaeokaaGreatDoorGra
import Derived.WalkSpells
import Derived.WalkLawsBesides
import Derived.Deep.RegionHeld3
set_option linter.unusedSimpArgs false
set_option linter.unusedVariables false
set_option maxHeartbeats 4000000
set_option maxRecDepth 100000
namespace Go.Proofs.YteldgdelmaeokaaGreatDoor
open Go.Proofs.Tryz Go.RowKit
theorem Kf (vD:Value) (l:List RM) (x:VM) (s:ByteArray) (B:Nat) (w:World) (h:Qz w B vD l) (hB:B≤w.heap.size) (ok:∀r∈l,r.d.ok) (sm:∀r∈l,r.d.small 1048576) (hx:x.rd w B) (hs:x.d.size≤2097152) (hss:s.size≤2097152) (ht:Tab w)
  (chg:Int→Zv→Option Zv) (f gd ga:Nat) (hf:∀(us:Array Value) (W:World),Sem.run prog (callFunc f us) W= .ok (.enter f us) W)
  (hCH:∀(x':VM) (S:List ByteArray) (lo g:Nat) (t:List Nat) (y:VM) (k g' o':Nat) (W:World),Below w.heap.size w W→w.heap.size≤lo→lo≤g→g < W.heap.size→lo≤W.heap.size→Te W lo g 0 x'→(∀i,i < 3→W.frozen? ⟨g,i,none⟩=false)→x'.d.size≤2097152→Qd (l.map RM.d) ((l.length:Int) - 1)=true→Hs (l.map RM.d) x' S W lo g 0 S.length t y k g' o'→
    Calls prog f #[.pointer (some ⟨g',o',none⟩), .int .i64 k, .pointer (some ⟨gd,0,none⟩), .pointer (some ⟨ga,0,none⟩)] W (ChE x' t lo g (chg k y.d) W)):
  Calls prog 24 #[.agg #[vD],Qs x, .string s, .func (.func f) #[] #[.pointer (some ⟨gd,0,none⟩), .pointer (some ⟨ga,0,none⟩)]] w
   (Uw (Ue (Qv (l.map RM.d) x.d (Qt Zf s) (Yr Zf s) chg).1) (.bool (Qv (l.map RM.d) x.d (Qt Zf s) (Yr Zf s) chg).2) w):=by
 have hs4:x.d.size≤4194304:=by omega
 have hlm:(l.map RM.d).length=l.length:=List.length_map ..
 have hR:∀W,Below w.heap.size w W→Calls prog 58 #[.agg #[vD]] W fun e w'=> e= .returned (.int .i64 ((l.length:Int) - 1))∧Below W.heap.size W w':=fun W hb=> Mn vD l B W (h.below (hb.mono hB))
 have hSP:∀W,Below w.heap.size w W→Calls prog 57 #[.string s] W fun e w'=> ∃v,e= .returned (.tuple #[v, .bool (Qt Zf s)])∧OwS (Yr Zf s) W.heap.size w'.heap.size w' v∧Below W.heap.size W w':=fun W hb=> Ml s W hss
 have hV:∀W,Below w.heap.size w W→Calls prog 28 #[.agg #[vD], .int .i64 ((l.length:Int) - 1),Qs x] W fun e w'=> e= .returned (.bool (Qd (l.map RM.d) ((l.length:Int) - 1) && Zn (l.map RM.d) ((l.length:Int) - 1) x.d))∧Below W.heap.size W w':=fun W hb=>
  On vD l _ x w.heap.size W ((h.below (hb.mono hB)).more hB) hb.size ok sm ((hx.bel (hb.mono hB)).more hB) hs4
 have hsz:∀p∈Yr Zf s,p.size≤maxLen:=fun p hp=> by
  unfold Yr at hp
  split at hp
  ·have:=Rv s 47 p (List.mem_of_mem_tail hp)
   unfold maxLen;omega
  ·cases hp
 have hP:∀(x':VM) (lo:Nat),x'.d=x.d→Qd (l.map RM.d) ((l.length:Int) - 1)=true→Zn (l.map RM.d) ((l.length:Int) - 1) x.d=true→∀W (g:Nat) (vS:Value),Below w.heap.size w W→x'.own lo W→Va W W.heap.size vS (Yr Zf s)→W.cell? ⟨g,0,none⟩=some (.int .i64 x'.n)→W.cell? ⟨g,1,none⟩=some x'.vb→W.cell? ⟨g,2,none⟩=some x'.vi→
   Calls prog 59 #[.agg #[vD], .pointer (some ⟨g,0,none⟩),vS] W fun e w'=> Below W.heap.size W w'∧PartE (l.map RM.d) x' (Yr Zf s) W lo g 0 e:=fun x' lo hd hk hv W g vS hb hx' hS a0 a1 a2=> by
  have hrg:=Vt hk
  have hl:0 < l.length:=by omega
  rw [Tp hl] at hv
  exact partAt_any vD l x' lo g 0 vS (Yr Zf s) B W (h.below (hb.mono hB)) (by have:=hb.size;omega) ok sm (Ua hk) hl hx' (by rw [hd];exact hs4) (by rw [hd];exact hv) a0 (by rw [Nat.zero_add];exact a1) (by rw [Nat.zero_add];exact a2) hS hsz (Pb ht hb)
 have hCP:∀W,Below w.heap.size w W→Calls prog 27 #[Qs x] W (Lm (Ue x.d) W):=fun W hb=>
  Fl x w.heap.size W ((hx.bel (hb.mono hB)).more hB) hb.size hs4
 obtain ⟨A,c,rfl,hc,hm, -⟩:=h.open_
 obtain ⟨Ax,cx,ex, -⟩:=hx.bytes.open_
 obtain ⟨Ay,cy,ey, -⟩:=hx.its.open_
 have hvm:Qs x= .agg #[.int .i64 x.n, .slice Ax x.b.length cx, .slice Ay x.items.length cy]:=by unfold Qs;rw [ex,ey]
 rw [hvm] at hV hCP ⊢
 have HR:=Fs hR
 have HSP:=Fs hSP
 have HV:=Fs hV
 have HP:=Fs hP
 have HCP:=Fs hCP
 have HCH:=Fs hCH
 have HLM:=Fs hlm
 have HSX:=Fs hs
 have hnx:x.d.items.length=x.items.length:=by rw [VM.items_d,List.length_map]
 have HNX:=Fs hnx
 clear hR hSP hV hP hCP hCH hlm ok sm h hs hs4 hss ht hsz hx ex ey hvm hnx hc
 unfold maxLen at hm
 obtain ⟨W0,hW0⟩:∃W0,W0=(((w.alloc (.cells #[.slice A l.length c] 26)).alloc (.cells #[.int .i64 x.n, .slice Ax x.b.length cx, .slice Ay x.items.length cy] 29)).alloc (.cells #[.int .i64 0, .slice none 0 0, .slice none 0 0] 29)):=⟨_,rfl⟩
 have hb0:Below w.heap.size w W0:=by rw [hW0];exact (((Fv w.heap.size w).alloc (Fu _) _).alloc (by simp) _).alloc (by simp;omega) _
 have hz0:W0.heap.size=w.heap.size+3:=by rw [hW0];simp
 have y0:W0.cell? ⟨w.heap.size,0,none⟩=some (.slice A l.length c):=by rw [hW0];simp [go_sem]
 have HV3:B3 W0 (w.heap.size+1) (.int .i64 x.n) (.slice Ax x.b.length cx) (.slice Ay x.items.length cy):=by
  rw [hW0]
  refine B3.alloc ?_ _
  have:=B3.new (w.alloc (.cells #[.slice A l.length c] 26)) (.int .i64 x.n) (.slice Ax x.b.length cx) (.slice Ay x.items.length cy) 29
  simpa using this
 have HR3:B3 W0 (w.heap.size+1+1) (.int .i64 0) (.slice none 0 0) (.slice none 0 0):=by
  rw [hW0]
  have:=B3.new ((w.alloc (.cells #[.slice A l.length c] 26)).alloc (.cells #[.int .i64 x.n, .slice Ax x.b.length cx, .slice Ay x.items.length cy] 29)) (.int .i64 0) (.slice none 0 0) (.slice none 0 0) 29
  simpa using this
 go_enter func24,ntmps24
 go_wp2_with fail
 rw [←hW0]
 clear hW0
 refine (HSP.out _ hb0).mono ?_
 rintro e w2 ⟨vs,rfl,hrd,bel⟩
 have b2:=Zb bel hb0
 have y2:=Ec bel y0
 have HV3:=HV3.later bel
 have HR3:=HR3.later bel
 have z2:w.heap.size+3≤w2.heap.size:=by have:=bel.size;omega
 have hsl:=hrd.sl
 obtain ⟨As,cs,rfl,hcs,hms,hsc⟩:=hsl.one
 have HSL:=Fs hsl
 clear bel y0 hb0 hrd hsc hsl HSP
 cases hok:Qt Zf s
 ·have HX:=Fs (Mq (D:=l.map RM.d) (x:=x.d) (ok:=Qt Zf s) (S:=Yr Zf s) (chg:=chg) (by rw [hok];rfl))
  clear HP HR HV HSL HCH hok
  generalize Yr Zf s=S at*
  generalize x.d=xd at*
  generalize x.items.length=nx at*
  obtain ⟨lt',p0,p1,p2,g0,g1,g2⟩:=HV3
  go_wp2_with fail
  refine wp_region_held_drew (S:=(fun w9=> w9.cell? ⟨w.heap.size,0,none⟩=some (.slice A l.length c))) (by kernel_rfl) ?_ (fun hHeld=> ?_)
  ·(try dsimp only);exact y2
  refine Za 0 (some 20) hHeld _ ?_;try go_frame
  refine Za 1 (some 21) hHeld _ ?_;try go_frame
  refine Za 2 (some 22) hHeld _ ?_;try go_frame
  refine Zl 3 (some 23) hHeld ?_;try go_frame
  refine Zl 4 (some 24) hHeld ?_;try go_frame
  refine Zl 5 (some 25) hHeld ?_;try go_frame
  refine Zl 6 (some 26) hHeld ?_;try go_frame
  refine Zl 7 (some 27) hHeld ?_;try go_frame
  refine Zl 8 (some 28) hHeld ?_;try go_frame
  refine Za 9 (some 29) hHeld _ ?_;try go_frame
  refine wpAnyH_done (by kernel_rfl) ?_ _
  go_wp2_with fail
  refine (HCP.out _ (b2.drew)).mono ?_
  rintro e wc ⟨vc,rfl,hoc,belc⟩
  have HB:=Fs (Zb belc (b2.drew))
  have RB:=HR3.later (((Fv w2.heap.size w2).drew).trans (belc.mono (by exact Fu _)))
  obtain ⟨Ac,cc,Ac',cc',rfl⟩:=hoc.agg
  have hoc:Ue xd w2.heap.size wc.heap.size wc _:=hoc
  have hz:w2.heap.size≤wc.heap.size:=belc.size
  have HO:=Fs hoc
  clear hoc belc
  obtain ⟨lt,t0,t1,t2,f0,f1,f2⟩:=RB
  go_wp2
  rw [HX.out]
  refine bodyPost_ret (v:= .tuple #[.agg #[.int .i64 xd.n, .slice Ac xd.b.length cc, .slice Ac' xd.items.length cc'], .bool false]) (by simp [results,results24,go_sem,t0,t1,t2]) rfl ⟨_,rfl,?_,Qm HB.out (by omega) _ _ _⟩
  refine (HO.out.set3 (g:=w.heap.size+1+1) (.inr (by omega)) _ _ _).wide (by omega) (by simp)
 ·obtain ⟨lt',p0,p1,p2,g0,g1,g2⟩:=HV3
  cases hval:(Qd (l.map RM.d) ((l.length:Int) - 1) && Zn (l.map RM.d) ((l.length:Int) - 1) x.d)
  ·rw [hval] at HV
   have HX:=Fs (Mq (D:=l.map RM.d) (x:=x.d) (ok:=Qt Zf s) (S:=Yr Zf s) (chg:=chg) (by rw [hok,HLM.out,hval];rfl))
   clear HP HSL HCH hok hval
   generalize Yr Zf s=S at*
   generalize x.d=xd at*
   generalize x.items.length=nx at*
   go_wp2_with fail
   refine wp_region_held_drew (S:=(fun w9=> w9.cell? ⟨w.heap.size,0,none⟩=some (.slice A l.length c)∧w9.cell? ⟨w.heap.size+1,0,none⟩=some (.int .i64 x.n)∧w9.cell? ⟨w.heap.size+1,1,none⟩=some (.slice Ax x.b.length cx)∧w9.cell? ⟨w.heap.size+1,2,none⟩=some (.slice Ay nx cy))) (by kernel_rfl) ?_ (fun hHeld=> ?_)
   ·(try dsimp only);exact ⟨y2,p0,p1,p2⟩
   refine Za 0 (some 20) hHeld _ ?_;try go_frame
   refine Za 1 (some 21) hHeld _ ?_;try go_frame
   refine Za 2 (some 22) hHeld _ ?_;try go_frame
   refine Za 3 (some 23) hHeld _ ?_;try go_frame
   refine Za 4 (some 24) hHeld _ ?_;try go_frame
   refine Za 6 (some 26) hHeld _ ?_;try go_frame
   refine Zh 5 (fun K hK=> ?_)
   go_simp
   refine (HR.out _ b2.drew).mono ?_;rintro e w7 ⟨rfl,bel7⟩;have bq:=Zb bel7 ((Fv w2.heap.size w2).drew);have bw:=Zb bel7 b2.drew
   (try go_wp2_with fail)
   refine hK.out _ _ ?_ (fun hHeld=> ?_)
   ·(try dsimp only);exact ⟨Ec bq y2,Ec bq p0,Ec bq p1,Ec bq p2⟩
   clear hK K
   try go_frame
   refine Zh 7 (fun K hK=> ?_)
   go_simp
   refine (HV.out _ bw).mono ?_;rintro e w8 ⟨rfl,bel8⟩;have bq:=Zb bel8 bq;have bw:=Zb bel8 bw
   (try go_wp2_with fail)
   refine hK.out _ _ ?_ (fun hHeld=> ?_)
   ·(try dsimp only);exact ⟨Ec bq y2,Ec bq p0,Ec bq p1,Ec bq p2⟩
   clear hK K
   try go_frame
   refine Za 8 (some 28) hHeld _ ?_;try go_frame
   refine Za 9 (some 29) hHeld _ ?_;try go_frame
   refine wpAnyH_done (by kernel_rfl) ?_ _
   have HR3:=HR3.later bq
   have r0:=Ec bq p0
   have r1:=Ec bq p1
   have r2:=Ec bq p2
   clear p0 p1 p2
   have hz8:w.heap.size+3≤w8.heap.size:=by have:=bq.size;omega
   clear bel7 bel8 bq
   go_wp2_with fail
   refine (HCP.out _ (bw)).mono ?_
   rintro e wc ⟨vc,rfl,hoc,belc⟩
   have HB:=Fs (Zb belc (bw))
   have RB:=HR3.later belc
   obtain ⟨Ac,cc,Ac',cc',rfl⟩:=hoc.agg
   have hoc:Ue xd w8.heap.size wc.heap.size wc _:=hoc
   have hz:w8.heap.size≤wc.heap.size:=belc.size
   have HO:=Fs hoc
   clear hoc belc
   obtain ⟨lt,t0,t1,t2,f0,f1,f2⟩:=RB
   go_wp2
   rw [HX.out]
   refine bodyPost_ret (v:= .tuple #[.agg #[.int .i64 xd.n, .slice Ac xd.b.length cc, .slice Ac' xd.items.length cc'], .bool false]) (by simp [results,results24,go_sem,t0,t1,t2]) rfl ⟨_,rfl,?_,Qm HB.out (by omega) _ _ _⟩
   refine (HO.out.set3 (g:=w.heap.size+1+1) (.inr (by omega)) _ _ _).wide (by omega) (by simp)
  ·rw [hval] at HV
   have hkn:Qd (l.map RM.d) ((l.length:Int) - 1)=true∧Zn (l.map RM.d) ((l.length:Int) - 1) x.d=true:=by simpa using hval
   have HKN:=Fs hkn
   have HXT:=Fs (show (Qt Zf s && (Qd (l.map RM.d) (((l.map RM.d).length:Int) - 1) && Zn (l.map RM.d) (((l.map RM.d).length:Int) - 1) x.d))=true by rw [hok,HLM.out,hval];rfl)
   clear hok hval hkn
   generalize Yr Zf s=S at*
   go_wp2_with fail
   refine wp_region_held_drew (S:=(fun w9=> w9.cell? ⟨w.heap.size,0,none⟩=some (.slice A l.length c)∧w9.cell? ⟨w.heap.size+1,0,none⟩=some (.int .i64 x.n)∧w9.cell? ⟨w.heap.size+1,1,none⟩=some (.slice Ax x.b.length cx)∧w9.cell? ⟨w.heap.size+1,2,none⟩=some (.slice Ay x.items.length cy))) (by kernel_rfl) ?_ (fun hHeld=> ?_)
   ·(try dsimp only);exact ⟨y2,p0,p1,p2⟩
   refine Za 0 (some 20) hHeld _ ?_;try go_frame
   refine Za 1 (some 21) hHeld _ ?_;try go_frame
   refine Za 2 (some 22) hHeld _ ?_;try go_frame
   refine Za 3 (some 23) hHeld _ ?_;try go_frame
   refine Za 4 (some 24) hHeld _ ?_;try go_frame
   refine Za 6 (some 26) hHeld _ ?_;try go_frame
   refine Zh 5 (fun K hK=> ?_)
   go_simp
   refine (HR.out _ b2.drew).mono ?_;rintro e w7 ⟨rfl,bel7⟩;have bq:=Zb bel7 ((Fv w2.heap.size w2).drew);have bw:=Zb bel7 b2.drew
   (try go_wp2_with fail)
   refine hK.out _ _ ?_ (fun hHeld=> ?_)
   ·(try dsimp only);exact ⟨Ec bq y2,Ec bq p0,Ec bq p1,Ec bq p2⟩
   clear hK K
   try go_frame
   refine Zh 7 (fun K hK=> ?_)
   go_simp
   refine (HV.out _ bw).mono ?_;rintro e w8 ⟨rfl,bel8⟩;have bq:=Zb bel8 bq;have bw:=Zb bel8 bw
   (try go_wp2_with fail)
   refine hK.out _ _ ?_ (fun hHeld=> ?_)
   ·(try dsimp only);exact ⟨Ec bq y2,Ec bq p0,Ec bq p1,Ec bq p2⟩
   clear hK K
   try go_frame
   refine Za 8 (some 28) hHeld _ ?_;try go_frame
   refine Za 9 (some 29) hHeld _ ?_;try go_frame
   refine wpAnyH_done (by kernel_rfl) ?_ _
   have HR3:=HR3.later bq
   have HSL:=Fs ((Sl.below HSL.out bq).more bq.size)
   have r0:=Ec bq p0
   have r1:=Ec bq p1
   have r2:=Ec bq p2
   have y8:=Ec bq y2
   have b8:=bw
   have hz8:w.heap.size+3≤w8.heap.size:=by have:=bq.size;omega
   clear bel7 bel8 bq bw y2 p0 p1 p2 g0 g1 g2 HR HV b2 lt'
   go_wp2_with fail
   refine (HCP.out _ b8).mono ?_
   rintro e w1 ⟨v,rfl,⟨x',hd,rfl,ho⟩,bel⟩
   obtain ⟨A7,c7,e7, -⟩:=ho.own.rd.bytes.open_
   obtain ⟨A8,c8,e8, -⟩:=ho.own.rd.its.open_
   have hvm:Qs x'= .agg #[.int .i64 x'.n, .slice A7 x'.b.length c7, .slice A8 x'.items.length c8]:=by unfold Qs;rw [e7,e8]
   rw [hvm]
   obtain ⟨W2,hW2⟩:∃W2,W2=w1.alloc (.cells #[.int .i64 x'.n, .slice A7 x'.b.length c7, .slice A8 x'.items.length c8] 29):=⟨_,rfl⟩
   have h12:Below w1.heap.size w1 W2:=by rw [hW2];exact (Fv _ _).alloc (Fu _) _
   have BB2:B3 W2 w1.heap.size (.int .i64 x'.n) (.slice A7 x'.b.length c7) (.slice A8 x'.items.length c8):=by rw [hW2];exact B3.new w1 _ _ _ _
   have hz2:W2.heap.size=w1.heap.size+1:=by rw [hW2];simp
   have b02:=bel.trans (h12.mono bel.size)
   have hb2:=Zb h12 (Zb bel b8)
   have s2:=Ec b02 y8
   have r0:=Ec b02 r0
   have r1:=Ec b02 r1
   have r2:=Ec b02 r2
   have HR3:=HR3.later b02
   have ho2:=ho.keep (Xq.of_below h12 0 0) (.inr (Eb _))
   have HBX:=Fs (show Te W2 w8.heap.size w1.heap.size 0 x' from ⟨fun i u hu=> by
    rw [Nat.zero_add]
    simp only [Ze,e7,e8] at hu
    match i,hu with
    |0,hu=> simp only [List.getElem?_cons_zero,Option.some.injEq] at hu;subst hu;exact BB2.c0
    |1,hu=> simp only [List.getElem?_cons_succ,List.getElem?_cons_zero,Option.some.injEq] at hu;subst hu;exact BB2.c1
    |2,hu=> simp only [List.getElem?_cons_succ,List.getElem?_cons_zero,Option.some.injEq] at hu;subst hu;exact BB2.c2
    |i+3,hu=> simp at hu,ho2.own,ho2.nd,fun hm=> by have:=(ho2.rng _ hm).2;omega⟩)
   have HSL:=Fs ((Sl.below HSL.out b02).more b02.size)
   have HPX:=Fs (HP.out x' w8.heap.size hd HKN.out.1 HKN.out.2 W2 w1.heap.size (.slice As S.length cs) hb2 ho2.own HSL.out BB2.c0 (by rw [e7];exact BB2.c1) (by rw [e8];exact BB2.c2))
   have HD:=Fs (Ft hd (Ft hvm bel.size))
   have hz1:w.heap.size+3≤w1.heap.size:=by have:=bel.size;omega
   obtain ⟨lb,a0,a1,a2,f0,f1,f2⟩:=BB2
   clear bel ho ho2 e7 e8 hvm hd HP y8 h12 b02 b8
   generalize hnn:x'.n=nn at*
   generalize hnb:x'.b.length=nb at*
   generalize hni:x'.items.length=ni at*
   have HNN:=Fs (Ft hnn (Ft hnb hni))
   clear hnn hnb hni
   go_upto_region 5 with fail
   rw [←hW2]
   clear hW2
   go_wp2_with fail
   refine HPX.out.mono ?_
   rintro e w9 ⟨bel9,⟨hn,rfl⟩|⟨t,y,k,g',o',hp,rfl⟩⟩
   ·rw [HD.out.1] at hn
    have HX:=Fs (Oq (ok:=Qt Zf s) (chg:=chg) hn)
    have HR3:=HR3.later bel9
    have bw:=Zb bel9 hb2
    have r0:=Ec bel9 r0
    have r1:=Ec bel9 r1
    have r2:=Ec bel9 r2
    have z9:=bel9.size
    clear hn bel9 HD HPX HBX HSL HCH a0 a1 a2 s2 HKN HXT hb2
    generalize x.d=xd at*
    generalize x.items.length=nx at*
    go_wp2_with fail
    refine (HCP.out _ (bw)).mono ?_
    rintro e wc ⟨vc,rfl,hoc,belc⟩
    have HB:=Fs (Zb belc (bw))
    have RB:=HR3.later belc
    obtain ⟨Ac,cc,Ac',cc',rfl⟩:=hoc.agg
    have hoc:Ue xd w9.heap.size wc.heap.size wc _:=hoc
    have hz:w9.heap.size≤wc.heap.size:=belc.size
    have HO:=Fs hoc
    clear hoc belc
    obtain ⟨lt,t0,t1,t2,f0,f1,f2⟩:=RB
    go_wp2
    rw [HX.out]
    refine bodyPost_ret (v:= .tuple #[.agg #[.int .i64 xd.n, .slice Ac xd.b.length cc, .slice Ac' xd.items.length cc'], .bool false]) (by simp [results,results24,go_sem,t0,t1,t2]) rfl ⟨_,rfl,?_,Qm HB.out (by omega) _ _ _⟩
    refine (HO.out.set3 (g:=w.heap.size+1+1) (.inr (by omega)) _ _ _).wide (by omega) (by simp)
   ·have hw:=hp.rdi.done (Fu _)
    rw [HD.out.1] at hw
    have r0:=Ec bel9 r0
    have r1:=Ec bel9 r1
    have r2:=Ec bel9 r2
    have HR3:=HR3.later bel9
    have a0:=Ec bel9 a0
    have a1:=Ec bel9 a1
    have a2:=Ec bel9 a2
    have b9:=Zb bel9 hb2
    have hbx:=HBX.out.later bel9
    have hfz:∀i,i < 3→w9.frozen? ⟨w1.heap.size,i,none⟩=false:=fun i hi=> by
     rw [bel9.frozen (p:=⟨w1.heap.size,i,none⟩) lb]
     match i,hi with
     |0,_=> exact f0
     |1,_=> exact f1
     |2,_=> exact f2
    have hcl:=HCH.out x' S w8.heap.size w1.heap.size t y k g' o' w9 b9 (by omega) HD.out.2.2 (by have:=bel9.size;omega) (by have:=bel9.size;have:=HD.out.2.2;omega) hbx hfz (by rw [HD.out.1];exact HSX.out) HKN.out.1 (hp.later bel9)
    have HW:=Fs (Ft hw (hp.put))
    have hz9:w1.heap.size < w9.heap.size:=by have:=bel9.size;omega
    have HCL:=Fs hcl
    clear hcl hw hp hbx bel9 HBX HPX hb2 s2 HSL HCH HKN
    go_wp2_with fail
    refine HCL.out.mono ?_
    rintro e w10 ⟨bel10,⟨hc,rfl⟩|⟨z,rfl,hc,hbz⟩⟩
    ·have HX:=Fs (Xz (ok:=Qt Zf s) HW.out.1 hc)
     have h8:=HD.out.2.2
     have HR3:=HR3.keep bel10 (by omega)
     have bw:=b9.trans (bel10.mono (by omega))
     have r0:=Zc r0 bel10 (by omega)
     have r1:=Zc r1 bel10 (by omega)
     have r2:=Zc r2 bel10 (by omega)
     have z10:=bel10.size
     clear hc bel10 HD HCL HW HXT a0 a1 a2 b9 h8
     generalize x.d=xd at*
     generalize x.items.length=nx at*
     go_wp2_with fail
     refine (HCP.out _ (bw)).mono ?_
     rintro e wc ⟨vc,rfl,hoc,belc⟩
     have HB:=Fs (Zb belc (bw))
     have RB:=HR3.later belc
     obtain ⟨Ac,cc,Ac',cc',rfl⟩:=hoc.agg
     have hoc:Ue xd w10.heap.size wc.heap.size wc _:=hoc
     have hz:w10.heap.size≤wc.heap.size:=belc.size
     have HO:=Fs hoc
     clear hoc belc
     obtain ⟨lt,t0,t1,t2,f0,f1,f2⟩:=RB
     go_wp2
     rw [HX.out]
     refine bodyPost_ret (v:= .tuple #[.agg #[.int .i64 xd.n, .slice Ac xd.b.length cc, .slice Ac' xd.items.length cc'], .bool false]) (by simp [results,results24,go_sem,t0,t1,t2]) rfl ⟨_,rfl,?_,Qm HB.out (by omega) _ _ _⟩
     refine (HO.out.set3 (g:=w.heap.size+1+1) (.inr (by omega)) _ _ _).wide (by omega) (by simp)
    ·have HX:=Fs (Un (S:=S) HXT.out HW.out.1 hc)
     have h8:=HD.out.2.2
     have HR3:=HR3.keep bel10 (by omega)
     have bw:=b9.trans (bel10.mono (by omega))
     obtain ⟨q,hq⟩:∃q,q=VM.put z x' t:=⟨_,rfl⟩
     rw [←hq] at hbz
     have hqd:q.d=Ta (l.map RM.d) z.d ((l.map RM.d).length - 1:Nat) x.d S:=by
      rw [hq,←HD.out.1]
      exact HW.out.2 z.d z (by rw [List.drop_length,Ro])
     have t0:=hbz.cells 0 _ rfl
     have t1:=hbz.cells 1 _ rfl
     have t2:=hbz.cells 2 _ rfl
     obtain ⟨A9,c9,e9, -⟩:=hbz.own.rd.bytes.open_
     obtain ⟨A10,c10,e10, -⟩:=hbz.own.rd.its.open_
     rw [e9] at t1
     rw [e10] at t2
     simp only [Nat.add_zero,Nat.zero_add] at t0 t1 t2
     have HQ:=Fs (Ft hqd (Ft hbz (Ft e9 e10)))
     have HBW:=Fs bw
     have z10:=bel10.size
     clear hc hq hqd hbz e9 e10 bel10 HCL HW HXT a0 a1 a2 b9 bw r0 r1 r2
     generalize hnq:q.n=nq at*
     generalize hlq:q.b.length=lq at*
     generalize hkq:q.items.length=kq at*
     have HNQ:=Fs (Ft hnq (Ft hlq hkq))
     clear hnq hlq hkq
     obtain ⟨lt,j0,j1,j2,f0,f1,f2⟩:=HR3
     go_wp2
     rw [HX.out]
     obtain ⟨hqd,hbz,e9,e10⟩:=HQ.out
     obtain ⟨n1,n2,n3⟩:=HNQ.out
     refine bodyPost_ret (v:= .tuple #[.agg #[.int .i64 nq, .slice A9 lq c9, .slice A10 kq c10], .bool true]) (by simp [results,results24,go_sem,j0,j1,j2]) rfl ⟨_,rfl,⟨q,hqd,by unfold Qs;rw [e9,e10,n1],?_⟩,Qm HBW.out (by omega) _ _ _⟩
     have hlq:∀g∈q.bks,w8.heap.size≤g∧g < w10.heap.size:=hbz.own.lt
     have o1:Ug q w8.heap.size w10.heap.size w10:=⟨hbz.own,hbz.nd,hlq⟩
     refine (o1.keep (lo':=w.heap.size+1+1) (hi':=w.heap.size+3) ?_ (.inr (by omega))).wide (by omega) (by simp)
     repeat (refine Xq.setCell ?_ (by show _≤w.heap.size+1+1;omega) (by show w.heap.size+1+1 < _;omega) _)
     exact Xq.refl _ _ _
end Go.Proofs.YteldgdelmaeokaaGreatDoor
