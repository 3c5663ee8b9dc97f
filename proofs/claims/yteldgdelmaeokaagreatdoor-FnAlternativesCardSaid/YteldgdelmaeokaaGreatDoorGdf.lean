/- Out of Dr18, Dr18P, Dr9B, Dr9S, Dr9C: the walks and plain laws that the claim needs. No condition but those that each theorem names. -/
import Derived.Test.YteldgdelmaeokaaGreatDoorGda
import Derived.Test.YteldgdelmaeokaaGreatDoorGu
import Derived.Test.YteldgdelmaeokaaGreatDoorGf
import Derived.Test.YteldgdelmaeokaaGreatDoorGh
import Derived.Test.YteldgdelmaeokaaGreatDoorGn
import Derived.WalkSpells
import Derived.WalkLawsBesides
import Derived.Deep.RegionHeld3
import Derived.Deep.DeepCutAuto
import Derived.Test.YteldgdelmaeokaaGreatDoorGdd
import Derived.Test.YteldgdelmaeokaaGreatDoorGb
import Derived.Test.YteldgdelmaeokaaGreatDoorGv
import Derived.Test.YteldgdelmaeokaaGreatDoorGra
set_option linter.unusedSimpArgs false
set_option linter.unusedVariables false
set_option maxHeartbeats 4000000
set_option maxRecDepth 100000
namespace Go.Proofs.YteldgdelmaeokaaGreatDoor
open Go.Proofs.Tryz Go.RowKit
theorem Zs {w w':World} {row:Option Nat} {g o:Nat} {u:Value} (hg:w.grownBy w' row) (h:w.cell? ⟨g,o,none⟩=some u) (hn:row≠some g):w'.cell? ⟨g,o,none⟩=some u:=by
 have hlt:=World.block_lt_of_cell? w ⟨g,o,none⟩ h
 rw [←h]
 unfold World.cell?
 simp only
 rw [hg.block g hlt (fun e=> hn e.symm)]
theorem name_bd {s:ByteArray} (h:Jc s=true):s.size≤12:=by
 unfold Jc at h
 simp only [Bool.and_eq_true,decide_eq_true_eq] at h
 exact h.2.2
theorem step_bd {D:List Zi} {r:Zi} (h:Zp D r=true) (i:Nat) (hi:i≤1048576):(Jt r i).size≤12:=by
 unfold Jt
 split
 ·have:(Ye (i:Int)).length≤7:=by
   unfold Ye
   split
   ·simp
   ·rw [if_neg (by omega),Int.natAbs_natCast]
    exact Pi i 7 (by omega)
  show (Ye (i:Int)).toArray.size≤12
  simpa using Nat.le_trans this (by omega)
 ·split
  ·rename_i h5 h6
   have hk:=h6.1
   unfold Zp at h
   rw [if_neg (by omega),if_neg (by omega),if_neg (by omega),if_neg (by omega),if_neg (by omega),if_pos hk,Bool.and_eq_true] at h
   have hn:=h.2
   unfold Jq at hn
   rw [Bool.and_eq_true] at hn
   have hlt:i < r.names.length:=by omega
   have:=(Yw _ _).1 hn.1 i hlt
   rw [Ki _ _ hlt,Bool.and_eq_true] at this
   rw [Int.toNat_natCast,List.getD,List.getElem?_eq_getElem hlt]
   exact name_bd this.1
  ·split
   ·decide
   ·split
    ·decide
    ·split
     ·decide
     ·split
      ·decide
      ·decide
def PthE (x:VM) (p:ByteArray) (k:Nat) (w:World) (e:Ending) (w':World):Prop:=
 ∃(u:Value) (P:List ByteArray),e= .returned u∧w'.ownsRow w.heap.size 9 1 u P.length (P.map .string)∧1≤P.length∧P.length≤x.d.size+1∧(∀s∈P,s.size≤p.size+32*k)∧Below w.heap.size w w'
def PthC (L:List RM) (k:Nat):Prop:=∀(vD:Value) (x:VM) (p:ByteArray) (B:Nat) (w:World),Qz w B vD L→B≤w.heap.size→Zn (L.map RM.d) k x.d=true→x.rd w B→x.d.size≤1048576→p.size+32*k≤65536→
 Calls prog 51 #[.agg #[vD], .int .i64 k,Qs x, .string p] w (PthE x p k w)
theorem Mg (L:List RM) (ok:∀r∈L,r.d.ok) (sm:∀r∈L,r.d.small 1048576) (hv:Yf (L.map RM.d)=true) (k:Nat):k < L.length→PthC L k:=by
 induction k using Nat.strongRecOn with
 |ind k ih=>
 intro hk vD x p B w h hB hvx hx hs hp
 obtain ⟨i0,hi,hz0,hz1,hz2⟩:=info_parts info_str
 have hlm:(L.map RM.d).length=L.length:=List.length_map ..
 have hkind:=Yc (Ui hv (k:=k) (by rw [hlm];exact hk))
 rw [List.getElem_map] at hkind
 have hlen:x.items.length≤1048576:=by
  have h2:=Zv.length_le (x.items.map VM.d)
  rw [List.length_map] at h2
  have h1:=hs
  rw [VM.size_d] at h1
  omega
 have hit:∀j (hj:j < x.items.length),∃k':Nat,Qk L[k].d x.n j=k'∧k' < k∧Zn (L.map RM.d) k' x.items[j].d=true:=fun j hj=> by
  have h1:=Ut hvx (j:=j) (by rw [VM.items_d,List.length_map];exact hj)
  rw [Pu (by rw [hlm];exact hk),VM.d_items_at hj,VM.n_d,List.getElem_map] at h1
  have h2:=hvx
  rw [Vq] at h2
  unfold Jo at h2
  rw [if_pos (by omega),Int.toNat_natCast,List.getElem?_eq_getElem (by rw [hlm];exact hk)] at h2
  simp only [Bool.and_eq_true] at h2
  rw [List.getElem_map] at h2
  have hro:=Ui hv (k:=k) (by rw [hlm];exact hk)
  rw [List.getElem_map] at hro
  obtain ⟨q,e1,e2⟩:=Ik (j:=j) hro h2.1 (by rw [VM.items_d,List.length_map];exact hj)
  rw [VM.n_d] at e1
  exact ⟨q,e1,e2,by rw [←e1];exact h1⟩
 obtain ⟨A,c,rfl,hc,hm, -⟩:=h.open_
 have hRC:=Zw h k hk
 obtain ⟨b0,off,A1,c1,A2,c2,A3,c3,A4,c4,rfl,hbB,e1,e2,e3,e4,m1,m2,m3,m4,hcell⟩:=hRC
 obtain ⟨Ax,cx,ex, -⟩:=hx.bytes.open_
 obtain ⟨Ay,cy,ey,hcy,hmy,hic⟩:=hx.its.open_
 have hC:∀(j:Nat),j < x.items.length→∀W,Below w.heap.size w W→Calls prog 37 #[Ja L[k], .int .i64 x.n, .int .i64 j] W fun e w'=> e= .returned (.int .i64 (Qk L[k].d x.n j))∧Below W.heap.size W w':=fun j hj W hb=>
  Vm (L.map RM.d) L[k] x.n j B W ((h.2 _ (Fw hk)).below (hb.mono hB)) (by have:=hb.size;omega) hkind (sm _ (Fw hk)) (by omega)
 have hS:∀(j:Nat),j < x.items.length→∀W,Below w.heap.size w W→Calls prog 65 #[Ja L[k], .int .i64 j] W fun e w'=> e= .returned (.string (Jt L[k].d j))∧Below W.heap.size W w':=fun j hj W hb=>
  Ly L[k] j B W ((h.2 _ (Fw hk)).below (hb.mono hB)) (by have:=hb.size;omega) (by omega) (by omega) (sm _ (Fw hk))
 have hP:∀(j:Nat) (hj:j < x.items.length) (k':Nat) (p':ByteArray),k' < k→Zn (L.map RM.d) k' x.items[j].d=true→p'.size+32*k'≤65536→∀W,Below w.heap.size w W→Calls prog 51 #[.agg #[.slice (some ⟨b0,off,none⟩) L.length c], .int .i64 k',Qs x.items[j], .string p'] W (PthE x.items[j] p' k' W):=fun j hj k' p' h1 h2 h3 W hb=>
  ih k' h1 (by omega) _ x.items[j] p' B W (h.below (hb.mono hB)) (by have:=hb.size;omega) h2 ((hx.bel (hb.mono hB)).its.2 _ (Fw hj)) (VM.size_item hj hs) h3
 have hsl:∀j (hj:j < x.items.length),∃A5 c5 A6 c6,x.items[j].vb= .slice A5 x.items[j].b.length c5∧x.items[j].vi= .slice A6 x.items[j].items.length c6:=fun j hj=> by
  have hr:=hx.its.2 _ (Fw hj)
  obtain ⟨A5,c5,e5, -⟩:=hr.bytes.open_
  obtain ⟨A6,c6,e6, -⟩:=hr.its.open_
  exact ⟨A5,c5,A6,c6,e5,e6⟩
 unfold Ja at hC hS
 rw [e1,e2,e3,e4] at hC hS
 have hstep:∀j,j < x.items.length→(Jt L[k].d (j:Nat)).size≤12:=fun j hj=> step_bd hkind j (by omega)
 have hszs:x.d.size=x.b.length+Zv.sizes (x.items.map VM.d):=VM.size_d x
 unfold Qs
 rw [ex,ey]
 have HIT:=Fs hit
 have HC:=Fs hC
 have HS:=Fs hS
 have HP:=Fs hP
 have HSL:=Fs hsl
 have HIC:=Fs hic
 have HCL:=Fs hcell
 have HST:=Fs hstep
 have HSZ:=Fs hszs
 unfold maxLen at hm hmy
 have hbx:b0 < w.heap.size:=by omega
 have hkl:=hk
 clear hit hC hS hP hsl hic hcell hstep hszs e1 e2 e3 e4 m1 m2 m3 m4 h hx hvx ih ex ey
 obtain ⟨W0,hW0⟩:∃W0,W0=(w.alloc (.cells #[.slice (some ⟨b0,off,none⟩) L.length c] 26)).alloc (.cells #[.int .i64 x.n, .slice Ax x.b.length cx, .slice Ay x.items.length cy] 29):=⟨_,rfl⟩
 have hb0:Below w.heap.size w W0:=by rw [hW0];exact ((Fv w.heap.size w).alloc (Fu _) _).alloc (by simp) _
 have hz0':w.heap.size+2≤W0.heap.size:=by rw [hW0];simp
 have s0:W0.cell? ⟨w.heap.size,0,none⟩=some (.slice (some ⟨b0,off,none⟩) L.length c):=by rw [hW0];simp [go_sem]
 have v0:W0.cell? ⟨w.heap.size+1,0,none⟩=some (.int .i64 x.n):=by rw [hW0];simp [go_sem]
 have v2:W0.cell? ⟨w.heap.size+1,2,none⟩=some (.slice Ay x.items.length cy):=by rw [hW0];simp [go_sem]
 go_enter func51,ntmps51
 go_upto_region 1 with fail
 rw [←hW0]
 clear hW0
 go_wp2
 have hrow0:(W0.alloc (.cells #[.string p] 9)).ownsRow (w.heap.size+2) 9 1 (.slice (some ⟨W0.heap.size,0,none⟩) 1 1) ([p]:List ByteArray).length (([p]:List ByteArray).map .string):=own_blk (Zo.new W0 9 #[.string p]) rfl (by simp [maxLen]) hz0'
 have hb1:Below (w.heap.size+2) W0 (W0.alloc (.cells #[.string p] 9)):=(Fv _ _).alloc hz0' _
 go_loopw [9,10] (fun o i wr=> ∃(j:Nat) (P:List ByteArray),j≤x.items.length∧i= .int .i64 j∧1≤P.length∧P.length≤1+Zv.sizes ((x.items.take j).map VM.d)∧(∀s∈P,s.size≤p.size+32*k)∧wr.ownsRow (w.heap.size+2) 9 1 o P.length (P.map .string)∧Below (w.heap.size+2) W0 wr) (fun _ i _=> x.items.length - (intOf i).toNat)
 case atStart=> exact ⟨0, [p],Eb _,rfl,by simp,by simp,by simp,hrow0,hb1⟩
 case round=>
  clear hrow0 hb1
  obtain ⟨j,P,hj,rfl,hP1,hP2,hall,hown,hb⟩:=hrel
  have hsz:=hb.size
  have bw:Below w.heap.size w wr:=hb0.trans (hb.mono (by omega))
  have s0:=Zc s0 hb (by omega)
  have v0:=Zc v0 hb (by omega)
  have v2:=Zc v2 hb (by omega)
  have HAL:=Fs hall
  have HOW:=Fs hown
  have HB:=Fs (Ft hb bw)
  clear hall hown hb hb0
  by_cases hlt:j < x.items.length
  ·obtain ⟨k',hk1,hk2,hk3⟩:=HIT.out j hlt
   have HV3:=Fs hk3
   obtain ⟨A5,c5,A6,c6,e5,e6⟩:=HSL.out j hlt
   obtain ⟨bi,fi,rfl,hbi,i0',i1',i2'⟩:=HIC.out j hlt
   have hbiw:bi < w.heap.size:=by omega
   rw [e5] at i1'
   rw [e6] at i2'
   have hC1:=HC.out j hlt
   rw [hk1] at hC1
   have HC1:=Fs hC1
   have HP1:=Fs (HP.out j hlt k')
   unfold Qs at HP1
   rw [e5,e6] at HP1
   have HST1:=HST.out j hlt
   have HS1:=Fs (HS.out j hlt)
   have HPN:=Fs (show P.length≤1048577 by
    have h2:Zv.sizes ((x.items.take j).map VM.d)≤Zv.sizes (x.items.map VM.d):=by
     have h3:x.items.map VM.d=(x.items.take j).map VM.d++(x.items.drop j).map VM.d:=by rw [←List.map_append,List.take_append_drop]
     rw [h3,Zv.sizes_append];omega
    have:=HSZ.out
    omega)
   obtain ⟨x0,x1,x2,x3,x4,x5,x6,x7⟩:=HCL.out wr (Zu bw hB)
   have j0:=Zc i0' (bw.mono hB) hbi
   have j1:=Zc i1' (bw.mono hB) hbi
   have j2:=Zc i2' (bw.mono hB) hbi
   clear hC1 hk1 hk3 e5 e6 i0' i1' i2' bw
   generalize Jt L[k].d (j:Nat)=st at*
   go_wp2_with fail
   obtain ⟨W1,hW1⟩:∃W1,W1=wr.alloc (.cells #[.string L[k].d.name, .int .i64 L[k].d.kind, .int .i64 L[k].d.size, .bool L[k].d.little, .slice A1 L[k].d.bytes.length c1, .slice A2 L[k].d.names.length c2, .slice A3 L[k].d.tags.length c3, .slice A4 L[k].d.kids.length c4] 50):=⟨_,rfl⟩
   rw [←hW1]
   have h12:Below wr.heap.size wr W1:=by rw [hW1];exact (Fv _ _).alloc (Fu _) _
   have hrb:Zo W1 wr.heap.size 50 #[.string L[k].d.name, .int .i64 L[k].d.kind, .int .i64 L[k].d.size, .bool L[k].d.little, .slice A1 L[k].d.bytes.length c1, .slice A2 L[k].d.names.length c2, .slice A3 L[k].d.tags.length c3, .slice A4 L[k].d.kids.length c4]:=by rw [hW1];exact Zo.new wr _ _
   obtain ⟨⟨t0,t1,t2,t3,t4,t5,t6,t7⟩, -⟩:=hrb.c8
   have hW1z:w.heap.size+2≤W1.heap.size:=by have:=h12.size;omega
   have s0:=Ec h12 s0
   have v0:=Ec h12 v0
   have v2:=Ec h12 v2
   have j0:=Ec h12 j0
   have j1:=Ec h12 j1
   have j2:=Ec h12 j2
   have hb1:=HB.out.1.trans (h12.mono (by omega))
   have HLT:=Fs HOW.out.lt
   have HB1:=Fs hb1
   have HO1:=Fs (Qb HOW.out h12 (Fu _))
   have bq:=(Fv W1.heap.size W1).drew
   have bw:=(Zb h12 HB.out.2).drew
   have hss1:¬9223372036854775807 < p.size+1:=by omega
   have hss2:¬9223372036854775807 < p.size+1+st.size:=by omega
   have hps:(p++(⟨#[47]⟩:ByteArray)++st).size=p.size+1+st.size:=by rw [ByteArray.size_append,ByteArray.size_append];rfl
   have HPS:=Fs hps
   clear x0 x1 x2 x3 x4 x5 x6 x7 hW1 hrb h12 hb1 hps HOW HB
   refine wp_region_held_drew (S:=(fun w9=> w9.cell? ⟨w.heap.size,0,none⟩=some (.slice (some ⟨b0,off,none⟩) L.length c)∧w9.cell? ⟨wr.heap.size,0,none⟩=some (.string L[k].d.name)∧w9.cell? ⟨wr.heap.size,1,none⟩=some (.int .i64 L[k].d.kind)∧w9.cell? ⟨wr.heap.size,2,none⟩=some (.int .i64 L[k].d.size)∧w9.cell? ⟨wr.heap.size,3,none⟩=some (.bool L[k].d.little)∧w9.cell? ⟨wr.heap.size,4,none⟩=some (.slice A1 L[k].d.bytes.length c1)∧w9.cell? ⟨wr.heap.size,5,none⟩=some (.slice A2 L[k].d.names.length c2)∧w9.cell? ⟨wr.heap.size,6,none⟩=some (.slice A3 L[k].d.tags.length c3)∧w9.cell? ⟨wr.heap.size,7,none⟩=some (.slice A4 L[k].d.kids.length c4)∧w9.cell? ⟨w.heap.size+1,0,none⟩=some (.int .i64 x.n)∧w9.cell? ⟨w.heap.size+1,2,none⟩=some (.slice (some ⟨bi,fi,none⟩) x.items.length cy)∧w9.cell? ⟨bi,fi+j*3,none⟩=some (.int .i64 x.items[j].n)∧w9.cell? ⟨bi,fi+j*3+1,none⟩=some (.slice A5 x.items[j].b.length c5)∧w9.cell? ⟨bi,fi+j*3+2,none⟩=some (.slice A6 x.items[j].items.length c6))) (by kernel_rfl) ?_ (fun hHeld=> ?_)
   ·(try dsimp only);exact ⟨s0,t0,t1,t2,t3,t4,t5,t6,t7,v0,v2,j0,j1,j2⟩
   refine Za 0 (some 26) hHeld _ ?_;try go_frame
   refine Za 1 (some 27) hHeld _ ?_;try go_frame
   refine Za 2 (some 28) hHeld _ ?_;try go_frame
   refine Za 3 (some 29) hHeld _ ?_;try go_frame
   refine Za 4 (some 30) hHeld _ ?_;try go_frame
   refine Za 5 (some 31) hHeld _ ?_;try go_frame
   refine Za 7 (some 33) hHeld _ ?_;try go_frame
   refine Za 8 (some 34) hHeld _ ?_;try go_frame
   refine Za 9 (some 35) hHeld _ ?_;try go_frame
   refine Za 10 (some 36) hHeld _ ?_;try go_frame
   refine Za 11 (some 37) hHeld _ ?_;try go_frame
   refine Za 12 (some 38) hHeld _ ?_;try go_frame
   refine Za 13 (some 39) hHeld _ ?_;try go_frame
   refine Za 14 (some 40) hHeld _ ?_;try go_frame
   refine Za 15 (some 41) hHeld _ ?_;try go_frame
   refine Zh 6 (fun K hK=> ?_)
   go_simp
   refine (HC1.out _ bw).mono ?_;rintro e w6 ⟨rfl,bel6⟩;have bq:=Zb bel6 bq;have bw:=Zb bel6 bw
   (try go_wp2_with fail)
   refine hK.out _ _ ?_ (fun hHeld=> ?_)
   ·(try dsimp only);first|exact ⟨Zs hg9 (Ec bq s0) (fun e=> by have:=HLT.out _ e;omega),Zs hg9 (Ec bq t0) (fun e=> by have:=HLT.out _ e;omega),Zs hg9 (Ec bq t1) (fun e=> by have:=HLT.out _ e;omega),Zs hg9 (Ec bq t2) (fun e=> by have:=HLT.out _ e;omega),Zs hg9 (Ec bq t3) (fun e=> by have:=HLT.out _ e;omega),Zs hg9 (Ec bq t4) (fun e=> by have:=HLT.out _ e;omega),Zs hg9 (Ec bq t5) (fun e=> by have:=HLT.out _ e;omega),Zs hg9 (Ec bq t6) (fun e=> by have:=HLT.out _ e;omega),Zs hg9 (Ec bq t7) (fun e=> by have:=HLT.out _ e;omega),Zs hg9 (Ec bq v0) (fun e=> by have:=HLT.out _ e;omega),Zs hg9 (Ec bq v2) (fun e=> by have:=HLT.out _ e;omega),Zs hg9 (Ec bq j0) (fun e=> by have:=HLT.out _ e;omega),Zs hg9 (Ec bq j1) (fun e=> by have:=HLT.out _ e;omega),Zs hg9 (Ec bq j2) (fun e=> by have:=HLT.out _ e;omega)⟩|exact ⟨Ec bq s0,Ec bq t0,Ec bq t1,Ec bq t2,Ec bq t3,Ec bq t4,Ec bq t5,Ec bq t6,Ec bq t7,Ec bq v0,Ec bq v2,Ec bq j0,Ec bq j1,Ec bq j2⟩
   clear hK K
   try go_frame
   refine Zh 16 (fun K hK=> ?_)
   go_simp
   refine (HS1.out _ bw).mono ?_;rintro e w7 ⟨rfl,bel7⟩;have bq:=Zb bel7 bq;have bw:=Zb bel7 bw
   (try go_wp2_with fail)
   refine hK.out _ _ ?_ (fun hHeld=> ?_)
   ·(try dsimp only);first|exact ⟨Zs hg9 (Ec bq s0) (fun e=> by have:=HLT.out _ e;omega),Zs hg9 (Ec bq t0) (fun e=> by have:=HLT.out _ e;omega),Zs hg9 (Ec bq t1) (fun e=> by have:=HLT.out _ e;omega),Zs hg9 (Ec bq t2) (fun e=> by have:=HLT.out _ e;omega),Zs hg9 (Ec bq t3) (fun e=> by have:=HLT.out _ e;omega),Zs hg9 (Ec bq t4) (fun e=> by have:=HLT.out _ e;omega),Zs hg9 (Ec bq t5) (fun e=> by have:=HLT.out _ e;omega),Zs hg9 (Ec bq t6) (fun e=> by have:=HLT.out _ e;omega),Zs hg9 (Ec bq t7) (fun e=> by have:=HLT.out _ e;omega),Zs hg9 (Ec bq v0) (fun e=> by have:=HLT.out _ e;omega),Zs hg9 (Ec bq v2) (fun e=> by have:=HLT.out _ e;omega),Zs hg9 (Ec bq j0) (fun e=> by have:=HLT.out _ e;omega),Zs hg9 (Ec bq j1) (fun e=> by have:=HLT.out _ e;omega),Zs hg9 (Ec bq j2) (fun e=> by have:=HLT.out _ e;omega)⟩|exact ⟨Ec bq s0,Ec bq t0,Ec bq t1,Ec bq t2,Ec bq t3,Ec bq t4,Ec bq t5,Ec bq t6,Ec bq t7,Ec bq v0,Ec bq v2,Ec bq j0,Ec bq j1,Ec bq j2⟩
   clear hK K
   try go_frame
   refine Za 17 (some 43) hHeld _ ?_;try go_frame
   refine Zh 18 (fun K hK=> ?_)
   go_simp
   refine (HP1.out (p++(⟨#[47]⟩:ByteArray)++st) hk2 HV3.out (by rw [HPS.out];omega) _ bw).mono ?_;rintro e w8 ⟨u2,P2,rfl,own8,hq1,hq2,hq3,bel8⟩;have hz78:=bq.size;have bq:=Zb bel8 bq;have bw:=Zb bel8 bw;have HQ:=Fs (Ft own8 (Ft hq3 bel8));have hq2:P2.length≤1048577:=(by have:=VM.size_item hlt hs;omega);have HQ2:=Fs hq2;clear own8 hq3 bel8;have HO8:=Fs (Qb HO1.out bq (Fu _));have hbz8:=bq.size
   (try go_wp2_with fail)
   refine hK.out _ _ ?_ (fun hHeld=> ?_)
   ·(try dsimp only);first|exact ⟨Zs hg9 (Ec bq s0) (fun e=> by have:=HLT.out _ e;omega),Zs hg9 (Ec bq t0) (fun e=> by have:=HLT.out _ e;omega),Zs hg9 (Ec bq t1) (fun e=> by have:=HLT.out _ e;omega),Zs hg9 (Ec bq t2) (fun e=> by have:=HLT.out _ e;omega),Zs hg9 (Ec bq t3) (fun e=> by have:=HLT.out _ e;omega),Zs hg9 (Ec bq t4) (fun e=> by have:=HLT.out _ e;omega),Zs hg9 (Ec bq t5) (fun e=> by have:=HLT.out _ e;omega),Zs hg9 (Ec bq t6) (fun e=> by have:=HLT.out _ e;omega),Zs hg9 (Ec bq t7) (fun e=> by have:=HLT.out _ e;omega),Zs hg9 (Ec bq v0) (fun e=> by have:=HLT.out _ e;omega),Zs hg9 (Ec bq v2) (fun e=> by have:=HLT.out _ e;omega),Zs hg9 (Ec bq j0) (fun e=> by have:=HLT.out _ e;omega),Zs hg9 (Ec bq j1) (fun e=> by have:=HLT.out _ e;omega),Zs hg9 (Ec bq j2) (fun e=> by have:=HLT.out _ e;omega)⟩|exact ⟨Ec bq s0,Ec bq t0,Ec bq t1,Ec bq t2,Ec bq t3,Ec bq t4,Ec bq t5,Ec bq t6,Ec bq t7,Ec bq v0,Ec bq v2,Ec bq j0,Ec bq j1,Ec bq j2⟩
   clear hK K
   try go_frame
   refine Zh 19 (fun K hK=> ?_)
   refine Je _ (.tmp 26) (.tmp 44) 47 rfl (w.heap.size+2) 9 i0 (.string ⟨#[]⟩) 1 16 underlying47 hi hz0 hz1 hz2 rfl (by decide) _ P.length _ rfl (by exact HO8.out) _ P2.length _ (P2.map .string) rfl (by exact Sl.of_own HQ.out.1) (by intro u hu;obtain ⟨s,_,rfl⟩:=List.mem_map.1 hu;rfl) (by have:=HPN.out;have:=HQ2.out;omega) (by have:=HPN.out;have:=HQ2.out;unfold maxLen;omega) (by omega) ?_;intro v9 w9 own9 hg9 _;obtain ⟨A9,c9,rfl⟩:=Zq own9
   refine hK.out _ _ ?_ (fun hHeld=> ?_)
   ·(try dsimp only);first|exact ⟨Zs hg9 (Ec bq s0) (fun e=> by have:=HLT.out _ e;omega),Zs hg9 (Ec bq t0) (fun e=> by have:=HLT.out _ e;omega),Zs hg9 (Ec bq t1) (fun e=> by have:=HLT.out _ e;omega),Zs hg9 (Ec bq t2) (fun e=> by have:=HLT.out _ e;omega),Zs hg9 (Ec bq t3) (fun e=> by have:=HLT.out _ e;omega),Zs hg9 (Ec bq t4) (fun e=> by have:=HLT.out _ e;omega),Zs hg9 (Ec bq t5) (fun e=> by have:=HLT.out _ e;omega),Zs hg9 (Ec bq t6) (fun e=> by have:=HLT.out _ e;omega),Zs hg9 (Ec bq t7) (fun e=> by have:=HLT.out _ e;omega),Zs hg9 (Ec bq v0) (fun e=> by have:=HLT.out _ e;omega),Zs hg9 (Ec bq v2) (fun e=> by have:=HLT.out _ e;omega),Zs hg9 (Ec bq j0) (fun e=> by have:=HLT.out _ e;omega),Zs hg9 (Ec bq j1) (fun e=> by have:=HLT.out _ e;omega),Zs hg9 (Ec bq j2) (fun e=> by have:=HLT.out _ e;omega)⟩|exact ⟨Ec bq s0,Ec bq t0,Ec bq t1,Ec bq t2,Ec bq t3,Ec bq t4,Ec bq t5,Ec bq t6,Ec bq t7,Ec bq v0,Ec bq v2,Ec bq j0,Ec bq j1,Ec bq j2⟩
   clear hK K
   try go_frame
   refine Za 20 (some 9) hHeld _ ?_;try go_frame
   refine wpAnyH_done (by kernel_rfl) ?_ _
   have hbf:Below (w.heap.size+2) W0 w9:=(HB1.out.trans (bq.mono hW1z)).grown hg9 (by omega) fun q e=> (HLT.out q e).1
   have HF:=Fs (Ft own9 hbf)
   have hq3:=HQ.out.2.1
   rw [HPS.out] at hq3
   have HQ3:=Fs hq3
   have hP2':=hP2
   have hszj:Zv.sizes ((x.items.take (j+1)).map VM.d)=Zv.sizes ((x.items.take j).map VM.d)+(1+x.items[j].d.size):=by
    rw [List.take_succ_eq_append_getElem hlt,List.map_append,Zv.sizes_append,List.map_cons,List.map_nil,Zv.sizes_cons,Zv.sizes_nil,Nat.add_zero]
   have HSJ:=Fs hszj
   clear own9 hg9 hbf hq3 bq bw s0 v0 v2 t0 t1 t2 t3 t4 t5 t6 t7 j0 j1 j2 HO8 HO1 HQ hHeld hszj
   go_wp2
   go_roundw
   case rel=> exact ⟨j+1,P++P2,by omega,by go_num,by simp;omega,by rw [HSJ.out,List.length_append];omega,fun s hs=> by
    rcases List.mem_append.1 hs with h|h
    ·exact HAL.out s h
    ·have:=HQ3.out s h;omega,by simpa using HF.out.1,HF.out.2⟩
   case measure=> simp [intOf];omega
  ·have hjn:j=x.items.length:=by omega
   have HF:=Fs (show P.length≤x.d.size+1 by
    rw [hjn,List.take_length] at hP2
    have:=HSZ.out
    omega)
   clear hjn
   go_wp2
   go_ret
   exact ⟨_,P,rfl,Ve HOW.out (by omega),hP1,HF.out,HAL.out,HB.out.2⟩
def xs18a:List ByteArray:= [⟨#[47,48]⟩,⟨#[47,42]⟩,⟨#[47,63]⟩,⟨#[47,43]⟩,⟨#[47,112,49]⟩,⟨#[47,48,48]⟩,⟨#[47]⟩,⟨#[120]⟩,⟨#[47,57]⟩]
def xs18b:List ByteArray:= [⟨#[112,49]⟩,⟨#[47]⟩,⟨#[47,47]⟩,⟨#[47,112,49]⟩,⟨#[47,48]⟩]
theorem xs18a_all:∀x∈xs18a,x.size≤3:=by
 have:(xs18a.all fun x=> decide (x.size≤3))=true:=by rfl
 intro x hx
 simpa using List.all_eq_true.1 this x hx
theorem xs18b_all:∀x∈xs18b,x.size≤3:=by
 have:(xs18b.all fun x=> decide (x.size≤3))=true:=by rfl
 intro x hx
 simpa using List.all_eq_true.1 this x hx
def PathE (b:Nat) (v:Value) (l:List UInt8) (w:World) (e:Ending) (w':World):Prop:=(∃S:ByteArray,e= .returned (.string S)∧S.size≤4096)∧Qx b w w'∧Qo b v l w'
theorem l18Path_any (b lo B:Nat) (v vD:Value) (l:List UInt8) (L:List RM) (x:VM) (w:World) (h:Qo b v l w) (hd:Zy lo B (fun w'=> Qz w' B vD L) w) (hB:B≤w.heap.size) (hD:Ud (L.map RM.d)) (h1:1≤L.length) (h9:L.length≤9) (hx:x.rd w w.heap.size) (hvx:Zn (L.map RM.d) (L.length - 1:Nat) x.d=true) (hs:x.d.size≤1048576):
  Calls prog 50 #[.pointer (some ⟨b,0,none⟩), .agg #[vD],Qs x] w (PathE b v l w):=by
 have hlm:(L.map RM.d).length=L.length:=List.length_map ..
 have ok:=hD.ok (by rw [hlm];exact h9)
 have sm:=hD.small
 have hval:=hD.valid (by rw [hlm];exact h1) (by rw [hlm];exact h9)
 have hbw:=h.lt
 obtain ⟨A,c,rfl,hc,hm, -⟩:=hd.now.open_
 unfold maxLen at hm
 obtain ⟨Ax,cx,ex, -⟩:=hx.bytes.open_
 obtain ⟨Ay,cy,ey, -⟩:=hx.its.open_
 have hP:∀W,Below w.heap.size w W→Calls prog 51 #[.agg #[.slice A L.length c], .int .i64 (L.length - 1:Nat),Qs x, .string ⟨#[]⟩] W (PthE x ⟨#[]⟩ (L.length - 1) W):=fun W hb=>
  Mg L (fun r hr=> ok _ (List.mem_map_of_mem hr)) (fun r hr=> sm _ (List.mem_map_of_mem hr)) hval (L.length - 1) (by omega) _ x _ W.heap.size W ((hd.below hb).now.more (by have:=hb.size;omega)) (Fu _) hvx ((hx.bel hb).more hb.size) hs (by show 0+32*(L.length - 1)≤65536;omega)
 unfold Qs at hP ⊢
 rw [ex,ey] at hP ⊢
 have HP:=Fs hP
 have HC:=Fs h
 clear hP h hd hx hvx ok sm hval hD ex ey
 obtain ⟨W0,hW0⟩:∃W0,W0=(w.alloc (.cells #[.slice A L.length c] 26)).alloc (.cells #[.int .i64 x.n, .slice Ax x.b.length cx, .slice Ay x.items.length cy] 29):=⟨_,rfl⟩
 have hb0:Below w.heap.size w W0:=by rw [hW0];exact ((Fv w.heap.size w).alloc (Fu _) _).alloc (by simp) _
 have s0:W0.cell? ⟨w.heap.size,0,none⟩=some (.slice A L.length c):=by rw [hW0];simp [go_sem]
 have v0:W0.cell? ⟨w.heap.size+1,0,none⟩=some (.int .i64 x.n):=by rw [hW0];simp [go_sem]
 have v1:W0.cell? ⟨w.heap.size+1,1,none⟩=some (.slice Ax x.b.length cx):=by rw [hW0];simp [go_sem]
 have v2:W0.cell? ⟨w.heap.size+1,2,none⟩=some (.slice Ay x.items.length cy):=by rw [hW0];simp [go_sem]
 have hl1:IntKind.i64.wrap ((L.length:Int) - 1)=((L.length - 1:Nat):Int):=by rw [IntWalk.i64_in _ (by omega)];omega
 have hl2:(L.length:Int) - 1=((L.length - 1:Nat):Int):=by omega
 clear hl2
 go_enter func50,ntmps50
 go_upto_region 1 with fail
 rw [←hW0]
 clear hW0
 go_wp2_with fail
 refine (HP.out _ hb0).mono ?_
 rintro e w1 ⟨u,P,rfl,hown,hp1,hp2,hall,bel⟩
 have hps:∀s∈P,s.size≤256:=fun s hs=> by have h3:=hall s hs;have h4:(⟨#[]⟩:ByteArray).size=0:=rfl;omega
 have hc1:=(HC.out.below hb0).below bel
 have hg1:Qx b w w1:=(Qx.of_below hb0).trans (Qx.of_below bel)
 have hz1:=hb0.size
 obtain ⟨Au,cu,rfl⟩:=Zq hown
 have H1:=Fs (Ft hc1 (Ft hg1 (Ft hown hps)))
 have hpl:P.length≤1048577:=by omega
 clear bel hall hown hc1 hg1 hps HP HC s0 v0 v1 v2 hb0 hl1 hp2
 go_wp2_with fail
 refine (Qn b b v l P.length w1 H1.out.1 (by omega) (by omega)).mono ?_
 rintro e w2 ⟨⟨z,rfl,hz0',hz1'⟩,hs2,hzq,hc2⟩
 obtain ⟨zn,rfl⟩:=Int.eq_ofNat_of_zero_le hz0'
 have hzn:zn < P.length:=by omega
 obtain ⟨A',c',e',_,_,hcl⟩:=Sl.one (Sl.of_own (Me H1.out.2.2.1 hs2 (by omega)))
 cases e'
 obtain ⟨bb,ff,rfl,hbb,hcell⟩:=hcl zn hzn
 have hp256:=H1.out.2.2.2 _ (Fw hzn)
 generalize P[zn]=S at*
 have H2:=Fs (Ft hc2 (H1.out.2.1.trans hs2))
 clear hcl hs2 hc2 hzq H1 hz0' hz1'
 go_wp2_with fail
 refine (Qn b b v l 8 w2 H2.out.1 (by omega) (by omega)).mono ?_
 rintro e w3 ⟨⟨y,rfl,hy0,hy1⟩,hs3,hzq,hc3⟩
 have H3:=Fs (Ft hc3 (H2.out.2.trans hs3))
 have hw3:=H3.out.1.lt
 clear hs3 hc3 hzq H2 hcell
 have hy:y=0∨y=1∨(y≠0∧y≠1):=by omega
 rcases hy with rfl|rfl|⟨n0,n1⟩
 ·go_wp2_with fail
  refine (Yo b w3.heap.size (w3.heap.size+1) v _ l xs18a _ (H3.out.1.alloc _) (Xy xs18a _ rfl _ _ rfl rfl (by decide)) hw3 (by decide) (by decide)).mono ?_
  rintro e w4 ⟨⟨t,ht,rfl⟩,hs4,hzq,hc4⟩
  have ht3:=xs18a_all t ht
  have hss:¬9223372036854775807 < S.size+t.size:=by omega
  have H4:=Fs (Ft (((H3.out.2.alloc _).trans hs4)) hc4)
  clear hs4 hc4 hzq ht
  go_wp2
  go_ret
  exact ⟨⟨_,rfl,by rw [ByteArray.size_append];omega⟩,H4.out.1,H4.out.2⟩
 ·go_wp2_with fail
  refine (Yo b w3.heap.size (w3.heap.size+1) v _ l xs18b _ (H3.out.1.alloc _) (Xy xs18b _ rfl _ _ rfl rfl (by decide)) hw3 (by decide) (by decide)).mono ?_
  rintro e w4 ⟨⟨t,ht,rfl⟩,hs4,hzq,hc4⟩
  have ht3:=xs18b_all t ht
  have H4:=Fs (Ft (((H3.out.2.alloc _).trans hs4)) hc4)
  clear hs4 hc4 hzq ht
  go_wp2
  go_ret
  exact ⟨⟨_,rfl,by omega⟩,H4.out.1,H4.out.2⟩
 ·have f0:(y==0)=false:=by rw [beq_eq_false_iff_ne];exact n0
  have f1:(y==1)=false:=by rw [beq_eq_false_iff_ne];exact n1
  go_wp2
  go_ret
  exact ⟨⟨_,rfl,by omega⟩,H3.out.2,H3.out.1⟩
def Oa (S:Nat→Prop) (x:VM) (w:World):Prop:=∀w':World,w.heap.size≤w'.heap.size→(∀q,q < w.heap.size→S q→w'.heap[q]?=w.heap[q]?)→x.rd w' w.heap.size
theorem Oa.now {S:Nat→Prop} {x:VM} {w:World} (h:Oa S x w):x.rd w w.heap.size:=h w (Fu _) fun _ _ _=> rfl
theorem Oa.step {S:Nat→Prop} {x:VM} {w w1:World} (h:Oa S x w) (hz:w.heap.size≤w1.heap.size) (hk:∀q,q < w.heap.size→S q→w1.heap[q]?=w.heap[q]?):Oa S x w1:=fun w2 h2 k2=>
 (h w2 (Nat.le_trans hz h2) fun q h1 hs=> (k2 q (by omega) hs).trans (hk q h1 hs)).more hz
theorem Oa.mono {S S':Nat→Prop} {x:VM} {w:World} (h:Oa S x w) (hs:∀q,q < w.heap.size→S q→S' q):Oa S' x w:=fun w2 h2 k2=> h w2 h2 fun q h1 hq=> k2 q h1 (hs q h1 hq)
theorem VM.own.rdB {lo B:Nat} {w:World} {x:VM} (h:x.own lo w) (hB:∀g∈x.bks,g < B):x.rd w B:=by
 induction h with
 | @mk n b vb vi l hb hi hx ih=>
  rw [VM.bks_mk] at hB
  refine .mk (Sl.of_lt hb fun g hg=> hB g (by rw [hg];simp)) (Sl.of_lt hi fun g hg=> hB g (by rw [hg];simp)) fun x hx'=> ih x hx' fun g hg=> hB g ?_
  simp only [List.mem_append]
  exact .inr (.inr (VM.mem_bkss hx' hg))
theorem VM.own.rdIn {S:Nat→Prop} {lo:Nat} {w:World} {x:VM} (h:x.own lo w) (hs:∀g∈x.bks,S g):Oa S x w:=fun w2 h2 k2=>
 VM.own.rdB (h.keep fun g hg=> k2 g (h.lt g hg).2 (hs g hg)) fun g hg=> (h.lt g hg).2
theorem Rh {S:Nat→Prop} {w:World} {base E size n:Nat} {v:Value} {xs:List Value} (h:w.ownsRow base E size v n xs) (hs:∀g,v.ownBlock=some g→S g) {w':World} (hk:∀q,q < w.heap.size→S q→w'.heap[q]?=w.heap[q]?):Sl w' w.heap.size size v n xs:=
 Sl.of_lt (Ql h fun g hg=> hk g (h.lt g hg).2 (hs g hg)) fun g hg=> (h.lt g hg).2
theorem VM.bks_vb {x:VM} {g:Nat} (h:x.vb.ownBlock=some g):g∈x.bks:=by rw [VM.bks_eq,h];simp
theorem VM.bks_vi {x:VM} {g:Nat} (h:x.vi.ownBlock=some g):g∈x.bks:=by rw [VM.bks_eq,h];simp
theorem VM.bks_it {x:VM} {y:VM} (h:y∈x.items) {g:Nat} (hg:g∈y.bks):g∈x.bks:=by
 rw [VM.bks_eq]
 simp only [List.mem_append]
 exact .inr (.inr (VM.mem_bkss h hg))
theorem bkss_take {l:List VM} {j:Nat} (hj:j < l.length):VM.bkss l=VM.bkss (l.take j)++(l[j].bks++VM.bkss (l.drop (j+1))):=by
 have h1:l=l.take j++(l[j]::l.drop (j+1)):=by
  rw [List.getElem_cons_drop];exact (List.take_append_drop j l).symm
 conv=> lhs;rw [h1]
 rw [VM.bkss_append,VM.bkss_cons]
theorem Fh {x:VM} (h:x.bks.Nodup) {j:Nat} (hj:j < x.items.length):x.items[j].bks.Nodup∧(∀i (hi:i < x.items.length),i≠j→∀g∈x.items[i].bks,g ∉ x.items[j].bks)∧(∀g,x.vb.ownBlock=some g→g ∉ x.items[j].bks)∧(∀g,x.vi.ownBlock=some g→g ∉ x.items[j].bks):=by
 rw [VM.bks_eq,bkss_take hj] at h
 have h1:=List.nodup_append.1 h
 have h2:=List.nodup_append.1 h1.2.1
 have h3:=List.nodup_append.1 h2.2.1
 have h4:=List.nodup_append.1 h3.2.1
 refine ⟨h4.1,fun i hi hne g hg hm=> ?_,fun g hg hm=> ?_,fun g hg hm=> ?_⟩
 ·by_cases hlt:i < j
  ·have:g∈VM.bkss (x.items.take j):=VM.mem_bkss (by
    have e:x.items[i]=(x.items.take j)[i]'(by rw [List.length_take];omega):=by rw [List.getElem_take]
    rw [e];exact Fw _) hg
   exact h3.2.2 g this g (List.mem_append_left _ hm) rfl
  ·have:g∈VM.bkss (x.items.drop (j+1)):=VM.mem_bkss (by
    have e:x.items[i]=(x.items.drop (j+1))[i - (j+1)]'(by rw [List.length_drop];omega):=by rw [List.getElem_drop];congr 1;omega
    rw [e];exact Fw _) hg
   exact h4.2.2 g hm g this rfl
 ·exact h1.2.2 g (by rw [hg];simp) g (by simp only [List.mem_append];exact .inr (.inr (.inl hm))) rfl
 ·exact h2.2.2 g (by rw [hg];simp) g (by simp only [List.mem_append];exact .inr (.inl hm)) rfl
theorem Kn {x:VM} (h:x.bks.Nodup) {g:Nat} (h1:x.vb.ownBlock=some g):x.vi.ownBlock≠some g:=fun h2=> by
 rw [VM.bks_eq,h1,h2] at h
 have:=List.nodup_append.1 h
 exact this.2.2 g (by simp) g (by simp) rfl
theorem Lb {x:VM} (h:x.bks.Nodup) {y:VM} (hy:y∈x.items) {g:Nat} (hg:g∈y.bks):x.vb.ownBlock≠some g∧x.vi.ownBlock≠some g:=by
 obtain ⟨j,hj,rfl⟩:=List.getElem_of_mem hy
 obtain ⟨-, -,h1,h2⟩:=Fh h hj
 exact ⟨fun e=> h1 g e hg,fun e=> h2 g e hg⟩
theorem sizes_set {l:List Zv} {j:Nat} (hj:j < l.length) (y:Zv):Zv.sizes (l.set j y)+l[j].size=Zv.sizes l+y.size:=by
 induction l generalizing j with
 |nil=> simp at hj
 |cons a l ih=>
  cases j with
  |zero=> simp only [List.set_cons_zero,Zv.sizes_cons,List.getElem_cons_zero];omega
  |succ j=>
   have:=ih (j:=j) (by simpa using hj)
   simp only [List.set_cons_succ,Zv.sizes_cons,List.getElem_cons_succ]
   omega
theorem sizes_tail (l:List Zv):Zv.sizes l.tail≤Zv.sizes l:=by
 cases l with
 |nil=> simp
 |cons a l=> simp only [List.tail_cons,Zv.sizes_cons];omega
def BentE (b:Nat) (v:Value) (l:List UInt8) (x:VM) (w:World) (e:Ending) (w':World):Prop:=
 ∃x':VM,e= .returned (Qs x')∧x'.d.size≤x.d.size+1∧Oa (fun q=> q∈x.bks∨w.heap.size≤q) x' w'∧Xg (b::x.bks) w w'∧Qo b v l w'
def BentC (b:Nat) (v:Value) (l:List UInt8) (x:VM):Prop:=∀(lo:Nat) (w:World),Qo b v l w→x.own lo w→x.bks.Nodup→b < lo→lo≤w.heap.size→x.d.size≤2097152→Calls prog 52 #[.pointer (some ⟨b,0,none⟩),Qs x] w (BentE b v l x w)
theorem Xg.set {bs:List Nat} {w W:World} (h:Xg bs w W) {g j:Nat} (hg:w.heap.size≤g∨g∈bs) (u:Value):Xg bs w (W.setCell ⟨g,j,none⟩ u):=
 ⟨h.os,h.tape,h.output,by simpa using h.size,fun k hk ho=> (Below.heap_setCell _ _ _ k (fun e:k=g=> hg.elim (fun h1=> by omega) (fun h1=> ho (by rw [e];exact h1)))).trans (h.block k hk ho)⟩
theorem Xg.go {bs:List Nat} {b:Nat} {w W W':World} (h:Xg bs w W) (hs:Qx b W W') (hb:b∈bs):Xg bs w W':=
 ⟨hs.os.trans h.os,hs.tape.trans h.tape,hs.output.trans h.output,Nat.le_trans h.size hs.size,fun k hk ho=> (hs.block k (Ea hk h.size) (fun e=> ho (by cases e;exact hb))).trans (h.block k hk ho)⟩
theorem Xg.row {bs:List Nat} {w W W':World} {row:Option Nat} (h:Xg bs w W) (hg:W.grownBy W' row) (hr:∀k,row=some k→w.heap.size≤k∨k∈bs):Xg bs w W':=
 ⟨hg.os.trans h.os,hg.tape.trans h.tape,hg.output.trans h.output,Nat.le_trans h.size hg.size,fun k hk ho=> (hg.block k (Ea hk h.size) (fun e=> (hr k e.symm).elim (fun h1=> absurd hk (by omega)) ho)).trans (h.block k hk ho)⟩
structure Mv (b:Nat) (v:Value) (l:List UInt8) (lo:Nat) (x:VM) (w W:World):Prop where
 cur:Qo b v l W
 out:Xg (b::x.bks) w W
 own:x.own lo W
 vbox:Zo W w.heap.size 29 #[.int .i64 x.n,x.vb,x.vi]
 res:Zo W (w.heap.size+1) 29 #[.int .i64 0, .slice none 0 0, .slice none 0 0]
 hb:b < w.heap.size
 hlo:b < lo
 bks:∀g∈x.bks,g < w.heap.size
 nd:x.bks.Nodup
 hz:w.heap.size+2≤W.heap.size
structure BeS (b:Nat) (v:Value) (l:List UInt8) (x:VM) (w:World) (n:Int) (vb vi:Value) (x':VM) (W:World):Prop where
 cur:Qo b v l W
 out:Xg (b::x.bks) w W
 vbox:Zo W w.heap.size 29 #[.int .i64 n,vb,vi]
 res:Zo W (w.heap.size+1) 29 #[.int .i64 0, .slice none 0 0, .slice none 0 0]
 rd:Oa (fun q=> q∈x.bks∨w.heap.size+2≤q) x' W
 en:x'.n=n
 eb:x'.vb=vb
 ei:x'.vi=vi
 size:x'.d.size≤x.d.size+1
 hb:b < w.heap.size
 bks:∀g∈x.bks,g < w.heap.size
 hz:w.heap.size+2≤W.heap.size
section
variable {b lo:Nat} {v vb vi:Value} {l:List UInt8} {x x':VM} {w W W' W2:World} {n:Int}
theorem Mv.step (h:Mv b v l lo x w W) (hs:Qx b W W') (hc:Qo b v l W'):Mv b v l lo x w W':=
 have h1:=h.hb
 have h2:=h.hlo
 ⟨hc,h.out.go hs (by simp),h.own.keep fun g hg=> hs.block g (h.own.lt g hg).2 (fun e=> by have e2:g=b:=Fz e;have:=(h.own.lt g hg).1;omega),h.vbox.go hs (by omega),h.res.go hs (by omega),h.hb,h.hlo,h.bks,h.nd,Nat.le_trans h.hz hs.size⟩
theorem Mv.below (h:Mv b v l lo x w W) (hb:Below W.heap.size W W'):Mv b v l lo x w W':=h.step (Qx.of_below hb) (h.cur.below hb)
theorem Mv.alloc (h:Mv b v l lo x w W) (o:Obj):Mv b v l lo x w (W.alloc o):=h.below ((Fv _ _).alloc (Fu _) o)
theorem Mv.drew (h:Mv b v l lo x w W):Mv b v l lo x w W.drew:=h.step ⟨rfl,rfl,rfl,Fu _,fun _ _ _=> rfl⟩ h.cur.drew
theorem BeS.fin (h:BeS b v l x w n vb vi x' W):
  ∃Wf,Wf=((W.setCell ⟨w.heap.size+1,0,none⟩ (.int .i64 n)).setCell ⟨w.heap.size+1,1,none⟩ vb).setCell ⟨w.heap.size+1,2,none⟩ vi∧
   Zo Wf (w.heap.size+1) 29 #[.int .i64 n,vb,vi]∧BentE b v l x w (.returned (.agg #[.int .i64 n,vb,vi])) Wf:=by
 have h1:=h.hb
 have hz:=h.hz
 have hkeep:∀(W1:World) (j:Nat) (u:Value),Oa (fun q=> q∈x.bks∨w.heap.size+2≤q) x' W1→Oa (fun q=> q∈x.bks∨w.heap.size+2≤q) x' (W1.setCell ⟨w.heap.size+1,j,none⟩ u):=fun W1 j u hr=>
  hr.step (by simp) fun q hq hs=> Below.heap_setCell _ _ _ q (show q≠w.heap.size+1 from hs.elim (fun h2=> by have:=h.bks q h2;omega) (fun h2=> by omega))
 refine ⟨_,rfl,?_,x',?_,h.size,?_,?_,?_⟩
 ·have:=((h.res.set 0 (.int .i64 n)).set 1 vb).set 2 vi
  simpa using this
 ·unfold Qs;rw [h.en,h.eb,h.ei]
 ·exact (hkeep _ _ _ (hkeep _ _ _ (hkeep _ _ _ h.rd))).mono fun q _ hs=> hs.imp id fun h2=> by omega
 ·exact ((h.out.set (.inl (by omega)) _).set (.inl (by omega)) _).set (.inl (by omega)) _
 ·exact ((h.cur.set (by omega) _).set (by omega) _).set (by omega) _
theorem Mv.same (h:Mv b v l lo x w W):BeS b v l x w x.n x.vb x.vi x W:=
 ⟨h.cur,h.out,h.vbox,h.res,h.own.rdIn fun g hg=> .inl hg,rfl,rfl,rfl,Nat.le_succ _,h.hb,h.bks,h.hz⟩
theorem BeS.of_set (h:Mv b v l lo x w W) (hc:Qo b v l W') (ho:Xg (b::x.bks) w W') (hv:Zo W' w.heap.size 29 #[.int .i64 x.n,x.vb,x.vi]) (hr:Zo W' (w.heap.size+1) 29 #[.int .i64 0, .slice none 0 0, .slice none 0 0])
  (hz:w.heap.size+2≤W'.heap.size) (j:Nat) (u:Value) (hcs: #[.int .i64 n,vb,vi]=(#[.int .i64 x.n,x.vb,x.vi]:Array Value).setIfInBounds j u) (rd:Oa (fun q=> q∈x.bks∨w.heap.size+2≤q) x' W') (en:x'.n=n) (eb:x'.vb=vb) (ei:x'.vi=vi) (size:x'.d.size≤x.d.size+1):
  BeS b v l x w n vb vi x' (W'.setCell ⟨w.heap.size,j,none⟩ u):=
 have h1:=h.hb
 ⟨hc.set (by omega) u,ho.set (.inl (Fu _)) u,by rw [hcs];exact hv.set j u,hr.other (by omega) u,rd.step (by simp) fun q hq hs=> Below.heap_setCell _ _ _ q (show q≠w.heap.size from hs.elim (fun h2=> by have:=h.bks q h2;omega) (fun h2=> by omega)),en,eb,ei,size,h.hb,h.bks,by simpa using hz⟩
theorem Mv.num (h:Mv b v l lo x w W) (n:Int):BeS b v l x w n x.vb x.vi (.mk n x.b x.vb x.vi x.items) (W.setCell ⟨w.heap.size,0,none⟩ (.int .i64 n)):=
 BeS.of_set h h.cur h.out h.vbox h.res h.hz 0 _ (by simp) (fun w2 h2 k2=> .mk (Rh h.own.bytes (fun g hg=> .inl (VM.bks_vb hg)) k2) (Rh h.own.row (fun g hg=> .inl (VM.bks_vi hg)) k2)
  fun y hy=> (VM.own.rdIn (S:=fun q=> q∈x.bks∨w.heap.size+2≤q) (h.own.its y hy) (fun g hg=> .inl (VM.bks_it hy hg))) w2 h2 k2) rfl rfl rfl (by obtain ⟨xn,xb,xvb,xvi,xl⟩:=x;simp only [VM.d_mk,Zv.size_mk,VM.b_mk,VM.items_mk];omega)
theorem Mv.grow (h:Mv b v l lo x w W) {row:Option Nat} (hg:W.grownBy W' row) (hr:∀q,row=some q→q∈x.bks):Qo b v l W'∧Xg (b::x.bks) w W'∧Zo W' w.heap.size 29 #[.int .i64 x.n,x.vb,x.vi]∧Zo W' (w.heap.size+1) 29 #[.int .i64 0, .slice none 0 0, .slice none 0 0]∧w.heap.size+2≤W'.heap.size:=
 have h2:=h.hlo
 ⟨h.cur.rowG hg fun q e=> by have:=(h.own.lt q (hr q e)).1;omega,h.out.row hg fun q e=> .inr (List.mem_cons_of_mem _ (hr q e)),h.vbox.row hg (fun e=> by have:=h.bks _ (hr _ e);omega),h.res.row hg (fun e=> by have:=h.bks _ (hr _ e);omega),Nat.le_trans h.hz hg.size⟩
theorem Mv.byte {vb':Value} {c:UInt8} (h:Mv b v l lo x w W) (own2:W'.ownsRow lo 5 1 vb' (x.b.length+1) (Uy x.b++ [u8v c])) (hg:W.grownBy W' x.vb.ownBlock) (hv:vb'.ownBlock=x.vb.ownBlock∨vb'.ownBlock=some W.heap.size):
  Zo W' w.heap.size 29 #[.int .i64 x.n,x.vb,x.vi]∧Zo W' (w.heap.size+1) 29 #[.int .i64 0, .slice none 0 0, .slice none 0 0]∧BeS b v l x w x.n vb' x.vi (.mk x.n (x.b++ [c]) vb' x.vi x.items) (W'.setCell ⟨w.heap.size,1,none⟩ vb'):=by
 obtain ⟨g1,g2,g3,g4,g5⟩:=h.grow hg fun q e=> VM.bks_vb e
 refine ⟨g3,g4,BeS.of_set h g1 g2 g3 g4 g5 1 _ (by simp) (fun w2 h2 k2=> .mk ?_ ?_ fun y hy=> ?_) rfl rfl rfl (by obtain ⟨xn,xb,xvb,xvi,xl⟩:=x;simp only [VM.d_mk,Zv.size_mk,VM.b_mk,VM.items_mk,List.length_append,List.length_cons,List.length_nil];omega)⟩
 ·have:=Rh (S:=fun q=> q∈x.bks∨w.heap.size+2≤q) own2 (fun g hg'=> by
   rcases hv with e|e
   ·exact .inl (VM.bks_vb (e ▸ hg'))
   ·rw [e] at hg';cases hg';exact .inr h.hz) k2
  unfold Xu
  rw [List.length_append,Ku]
  exact this
 ·exact Rh (S:=fun q=> q∈x.bks∨w.heap.size+2≤q) (Ql h.own.row fun g hg'=> hg.block g (h.own.row.lt g hg').2 (fun e=> Kn h.nd e.symm hg')) (fun g hg'=> .inl (VM.bks_vi hg')) k2
 ·exact (VM.own.rdIn (S:=fun q=> q∈x.bks∨w.heap.size+2≤q) ((h.own.its y hy).keep fun g hg'=> hg.block g ((h.own.its y hy).lt g hg').2 (fun e=> (Lb h.nd hy hg').1 e.symm)) (fun g hg'=> .inl (VM.bks_it hy hg'))) w2 h2 k2
theorem Mv.item {vi':Value} (h:Mv b v l lo x w W) (own2:W'.ownsRow lo 29 3 vi' (x.items.length+1) (x.items.flatMap Ze++Ze (.mk 0 [] (.slice none 0 0) (.slice none 0 0) []))) (hg:W.grownBy W' x.vi.ownBlock) (hv:vi'.ownBlock=x.vi.ownBlock∨vi'.ownBlock=some W.heap.size):
  Zo W' w.heap.size 29 #[.int .i64 x.n,x.vb,x.vi]∧Zo W' (w.heap.size+1) 29 #[.int .i64 0, .slice none 0 0, .slice none 0 0]∧BeS b v l x w x.n x.vb vi' (.mk x.n x.b x.vb vi' (x.items++ [.mk 0 [] (.slice none 0 0) (.slice none 0 0) []])) (W'.setCell ⟨w.heap.size,2,none⟩ vi'):=by
 obtain ⟨g1,g2,g3,g4,g5⟩:=h.grow hg fun q e=> VM.bks_vi e
 refine ⟨g3,g4,BeS.of_set h g1 g2 g3 g4 g5 2 _ (by simp) (fun w2 h2 k2=> .mk ?_ ?_ fun y hy=> ?_) rfl rfl rfl (by
  obtain ⟨xn,xb,xvb,xvi,xl⟩:=x
  simp only [VM.d_mk,Zv.size_mk,VM.b_mk,VM.items_mk,List.map_append,List.map_cons,List.map_nil,Zv.sizes_append,Zv.sizes_cons,Zv.sizes_nil,List.length_nil]
  omega)⟩
 ·exact Rh (S:=fun q=> q∈x.bks∨w.heap.size+2≤q) (Ql h.own.bytes fun g hg'=> hg.block g (h.own.bytes.lt g hg').2 (fun e=> Kn h.nd hg' e.symm)) (fun g hg'=> .inl (VM.bks_vb hg')) k2
 ·have:=Rh (S:=fun q=> q∈x.bks∨w.heap.size+2≤q) own2 (fun g hg'=> by
   rcases hv with e|e
   ·exact .inl (VM.bks_vi (e ▸ hg'))
   ·rw [e] at hg';cases hg';exact .inr h.hz) k2
  rw [List.length_append,List.flatMap_append]
  simpa using this
 ·rcases List.mem_append.1 hy with hy|hy
  ·exact (VM.own.rdIn (S:=fun q=> q∈x.bks∨w.heap.size+2≤q) ((h.own.its y hy).keep fun g hg'=> hg.block g ((h.own.its y hy).lt g hg').2 (fun e=> (Lb h.nd hy hg').2 e.symm)) (fun g hg'=> .inl (VM.bks_it hy hg'))) w2 h2 k2
  ·simp only [List.mem_singleton] at hy
   subst hy
   exact .mk (Sl.nil _ _ _) (Sl.nil _ _ _) (by simp)
theorem Mv.tail (h:Mv b v l lo x w W) (hi:0 < x.items.length) {A:Option Addr} {c:Nat} (ev:x.vi= .slice A x.items.length c):
  BeS b v l x w x.n x.vb (.slice (cutA A c 1 3) (x.items.length - 1) (c - 1)) (.mk x.n x.b x.vb (.slice (cutA A c 1 3) (x.items.length - 1) (c - 1)) x.items.tail) (W.setCell ⟨w.heap.size,2,none⟩ (.slice (cutA A c 1 3) (x.items.length - 1) (c - 1))):=by
 refine BeS.of_set h h.cur h.out h.vbox h.res h.hz 2 _ (by simp) (fun w2 h2 k2=> .mk (Rh h.own.bytes (fun g hg=> .inl (VM.bks_vb hg)) k2) ?_
  fun y hy=> (VM.own.rdIn (S:=fun q=> q∈x.bks∨w.heap.size+2≤q) (h.own.its y (List.mem_of_mem_tail hy)) (fun g hg=> .inl (VM.bks_it (List.mem_of_mem_tail hy) hg))) w2 h2 k2) rfl rfl rfl (by obtain ⟨xn,xb,xvb,xvi,xl⟩:=x;have:=sizes_tail (xl.map VM.d);simp only [VM.d_mk,Zv.size_mk,VM.b_mk,VM.items_mk,List.map_tail];omega)
 have h1:=Rh (S:=fun q=> q∈x.bks∨w.heap.size+2≤q) h.own.row (fun g hg=> .inl (VM.bks_vi hg)) k2
 rw [ev] at h1
 have h1':=h1
 obtain ⟨_,A',c',e,hc1,hc2,_⟩:=h1'
 cases e
 have h3:=Sl.cutA h1 1 x.items.length c hi (Fu _) hc1 hc2 (by decide)
 have e3:((x.items.flatMap Ze).drop (1*3)).take ((x.items.length - 1)*3)=x.items.tail.flatMap Ze:=by
  rcases hl:x.items with _|⟨a,t⟩
  ·rw [hl] at hi;simp at hi
  ·rw [List.flatMap_cons,List.drop_append_of_le_length (by simp [Ze])]
   have:(Ze a).drop (1*3)= []:=rfl
   rw [this,List.nil_append,List.take_of_length_le (by rw [Vv Ze 3 Qj];simp)]
   rfl
 rw [e3] at h3
 rw [List.length_tail]
 exact h3
theorem set_flat {l:List VM} {j:Nat} (hj:j < l.length) (y:VM):(l.set j y).flatMap Ze=(l.take j).flatMap Ze++Ze y++(l.drop (j+1)).flatMap Ze:=by
 rw [List.set_eq_take_append_cons_drop,if_pos hj,List.flatMap_append,List.flatMap_cons,List.append_assoc]
theorem self_flat {l:List VM} {j:Nat} (hj:j < l.length):l.flatMap Ze=(l.take j).flatMap Ze++(Ze l[j]++(l.drop (j+1)).flatMap Ze):=by
 have:=set_flat hj l[j]
 rwa [List.set_getElem_self,List.append_assoc] at this
theorem take_flat {l:List VM} {j:Nat} (hj:j < l.length):((l.take j).flatMap Ze).length=j*3:=by
 rw [Vv Ze 3 Qj,List.length_take]
 congr 1
 omega
theorem Mv.bent {j:Nat} (h:Mv b v l lo x w W) (hj:j < x.items.length) {y':VM} (hr:Oa (fun q=> q∈x.items[j].bks∨W.heap.size≤q) y' W2) (ho:Xg (b::x.items[j].bks) W W2) (hc:Qo b v l W2) (hs:y'.d.size≤x.items[j].d.size+1) {g c:Nat} (ev:x.vi= .slice (some ⟨g,0,none⟩) x.items.length c):
  W2.ownsRow lo 29 3 x.vi x.items.length (x.items.flatMap Ze)∧Zo W2 w.heap.size 29 #[.int .i64 x.n,x.vb,x.vi]∧Zo W2 (w.heap.size+1) 29 #[.int .i64 0, .slice none 0 0, .slice none 0 0]∧w.heap.size+2≤W2.heap.size∧
   BeS b v l x w x.n x.vb x.vi (.mk x.n x.b x.vb x.vi (x.items.set j y')) (Qu W2 g (j*3) (Ze y')):=by
 obtain ⟨nd1,nd2,nd3,nd4⟩:=Fh h.nd hj
 have hgv:x.vi.ownBlock=some g:=by rw [ev];rfl
 have hgb:=VM.bks_vi hgv
 have hgw:=h.bks g hgb
 have hgl:=(h.own.row.lt g hgv).1
 have hlo:=h.hlo
 have hb:=h.hb
 have hz:=h.hz
 have hz2:=ho.size
 have hne:∀q,q ∉ x.items[j].bks→q≠b→q ∉ b::x.items[j].bks:=fun q h1 h2 hm=> (List.mem_cons.1 hm).elim h2 h1
 have hbk:∀q∈x.items[j].bks,q < w.heap.size:=fun q hq=> h.bks q (VM.bks_it (Fw hj) hq)
 have hrow2:W2.ownsRow lo 29 3 x.vi x.items.length (x.items.flatMap Ze):=Ql h.own.row fun q hq=> ho.block q (h.own.row.lt q hq).2 (hne q (nd4 q hq) (by have:=(h.own.row.lt q hq).1;omega))
 have hv2:Zo W2 w.heap.size 29 #[.int .i64 x.n,x.vb,x.vi]:=(ho.block _ h.vbox.lt (hne _ (fun hm=> by have:=hbk _ hm;omega) (by omega))).trans h.vbox
 have hr2:Zo W2 (w.heap.size+1) 29 #[.int .i64 0, .slice none 0 0, .slice none 0 0]:=(ho.block _ h.res.lt (hne _ (fun hm=> by have:=hbk _ hm;omega) (by omega))).trans h.res
 have hout:Xg (b::x.bks) w W2:=h.out.trans ⟨ho.os,ho.tape,ho.output,ho.size,fun k hk hn=> ho.block k hk fun hm=> hn ((List.mem_cons.1 hm).elim (fun e=> by rw [e];exact List.mem_cons_self) (fun e=> List.mem_cons_of_mem _ (VM.bks_it (Fw hj) e)))⟩
 have hph:∀q,q≠g→(Qu W2 g (j*3) (Ze y')).heap[q]?=W2.heap[q]?:=fun q hq=> Go.Proofs.YteldgdelmaeokaaGreatDoor.putCells_heap (g:=g) (k:=q) hq (Ze y') W2 (j*3)
 have hps:=Hm g (Ze y') W2 (j*3)
 have hrow3:(Qu W2 g (j*3) (Ze y')).ownsRow lo 29 3 x.vi x.items.length ((x.items.set j y').flatMap Ze):=by
  have h1:=hrow2
  rw [self_flat hj] at h1
  rw [ev] at h1 ⊢
  have h2:=Md (Ze y') W2 ((x.items.take j).flatMap Ze) (Ze x.items[j]++(x.items.drop (j+1)).flatMap Ze) (by simp [Ze]) h1
  rw [take_flat hj] at h2
  rw [set_flat hj]
  have e3:(Ze x.items[j]++(x.items.drop (j+1)).flatMap Ze).drop (Ze y').length=(x.items.drop (j+1)).flatMap Ze:=by simp [Ze]
  rw [e3] at h2
  exact h2
 refine ⟨hrow2,hv2,hr2,by omega,?_,?_,(hph _ (by omega)).trans hv2,(hph _ (by omega)).trans hr2,fun w5 h5 k5=> .mk ?_ ?_ fun y hy=> ?_,rfl,rfl,rfl,?_,h.hb,h.bks,by omega⟩
 ·exact hc.rowG (Rp (Ze y') W2 (j*3)) fun q e=> by have e2:g=q:=Fz e;omega
 ·exact hout.row (Rp (Ze y') W2 (j*3)) fun q e=> by have e2:g=q:=Fz e;exact .inr (List.mem_cons_of_mem _ (e2 ▸ hgb))
 ·refine Rh (S:=fun q=> q∈x.bks∨w.heap.size+2≤q) (base:=lo) (Ql h.own.bytes fun q hq=> (hph q (fun e=> Kn h.nd hq (by rw [hgv,e]))).trans (ho.block q (h.own.bytes.lt q hq).2 (hne q (nd3 q hq) (by have:=(h.own.bytes.lt q hq).1;omega)))) (fun q hq=> .inl (VM.bks_vb hq)) k5
 ·rw [List.length_set]
  exact Rh (S:=fun q=> q∈x.bks∨w.heap.size+2≤q) hrow3 (fun q hq=> .inl (VM.bks_vi hq)) k5
 ·obtain ⟨i,hi,rfl⟩:=List.getElem_of_mem hy
  rw [List.length_set] at hi
  rw [List.getElem_set]
  split
  ·rename_i e
   have:=hr w5 (by omega) fun q h1 h2=> by
    rw [k5 q (by omega) (h2.imp (fun h3=> VM.bks_it (Fw hj) h3) (fun h3=> by omega)),hph q (fun e=> h2.elim (fun h3=> nd4 g hgv (e ▸ h3)) (fun h3=> by omega))]
   rw [hps]
   exact this
  ·rename_i e
   have hne2:i≠j:=fun e2=> e e2.symm
   refine (VM.own.rdIn (S:=fun q=> q∈x.bks∨w.heap.size+2≤q) (w:=Qu W2 g (j*3) (Ze y')) (lo:=lo) ((h.own.its _ (Fw hi)).keep fun q hq=> ?_) (fun q hq=> .inl (VM.bks_it (Fw hi) hq))) w5 h5 k5
   have hl:=(h.own.its _ (Fw hi)).lt q hq
   rw [hph q (fun e=> (Lb h.nd (Fw hi) hq).2 (by rw [hgv,e])),ho.block q hl.2 (hne q (nd2 i hi hne2 q hq) (by omega))]
 ·obtain ⟨xn,xb,xvb,xvi,xl⟩:=x
  have hsz:=sizes_set (l:=xl.map VM.d) (j:=j) (by simpa using hj) y'.d
  rw [List.getElem_map] at hsz
  simp only [VM.d_mk,Zv.size_mk,VM.b_mk,VM.items_mk,List.map_set] at hs hsz ⊢
  omega
end
theorem l9Bent_any (b:Nat) (v:Value) (l:List UInt8) (x:VM):BentC b v l x:=by
 induction x using VM.induct with
 |h xn xb xvb xvi xl ih=>
 intro lo w h hown hnd hblo hlow hsz
 obtain ⟨i0,hi,hz0,hz1,hz2⟩:=info_parts info_value
 obtain ⟨i1,gi,gz0,gz1,gz2⟩:=info_parts info_u8
 have hbw:=h.lt
 obtain ⟨A1,c1,ev1⟩:=Zq hown.bytes
 obtain ⟨A2,c2,ev2⟩:=Zq hown.row
 simp only [VM.vb_mk,VM.b_mk,VM.vi_mk,VM.items_mk] at ev1 ev2
 subst ev1 ev2
 have hll:xb.length≤2097152∧xl.length≤2097152:=by
  have h2:=Zv.length_le (xl.map VM.d)
  rw [List.length_map] at h2
  have h1:=hsz
  rw [VM.d_mk,Zv.size_mk] at h1
  omega
 obtain ⟨hbl,hll⟩:=hll
 obtain ⟨W0,hW0⟩:∃W0,W0=(w.alloc (.cells #[.int .i64 xn, .slice A1 xb.length c1, .slice A2 xl.length c2] 29)).alloc (.cells #[.int .i64 0, .slice none 0 0, .slice none 0 0] 29):=⟨_,rfl⟩
 have hb0:Below w.heap.size w W0:=by rw [hW0];exact ((Fv w.heap.size w).alloc (Fu _) _).alloc (by simp) _
 have HX:=Fs (show Mv b v l lo (.mk xn xb (.slice A1 xb.length c1) (.slice A2 xl.length c2) xl) w W0 from
  ⟨h.below hb0,Xg.of_below hb0,hown.keep fun g hg=> hb0.block g (hown.lt g hg).2,by rw [hW0];exact (Zo.new w _ _).alloc _,by rw [hW0];have:=Zo.new (w.alloc (.cells #[.int .i64 xn, .slice A1 xb.length c1, .slice A2 xl.length c2] 29)) 29 #[.int .i64 0, .slice none 0 0, .slice none 0 0];simpa using this,hbw,hblo,fun g hg=> (hown.lt g hg).2,hnd,by rw [hW0];simp⟩)
 have IH:=Fs (Ft ih hsz)
 clear h hown hnd hsz ih hb0
 show Calls prog 52 #[.pointer (some ⟨b,0,none⟩), .agg #[.int .i64 xn, .slice A1 xb.length c1, .slice A2 xl.length c2]] w _
 go_enter func52,ntmps52
 go_upto_region 1 with fail
 rw [←hW0]
 clear hW0
 go_wp2_with fail
 refine (Qn b b v l 5 W0 HX.out.cur (by omega) (by omega)).mono ?_
 rintro e w1 ⟨⟨z,rfl,hz0',hz1'⟩,hs,hzq,hc1⟩
 have HY:=Fs (HX.out.step hs hc1)
 clear hzq hs hc1 HX
 have hz:z=0∨z=1∨z=2∨z=3∨z=4:=by omega
 clear hz0' hz1'
 have hz1w:=HY.out.hz
 rcases hz with rfl|rfl|rfl|rfl|rfl
 ·have hI:Zy w1.heap.size (w1.heap.size+1) (fun w'=> Yt w' (w1.heap.size+1) (.slice (some ⟨w1.heap.size,0,none⟩) 4 4) [-1,1,256,4294967296]) (w1.alloc (.cells #[.int .i64 (-1), .int .i64 1, .int .i64 256, .int .i64 4294967296] 3)):=
   ⟨by simp,fun w5 h5 k5=> Rx (show Zo w5 _ 3 _ from (k5 _ (by omega) (by omega)).trans (Zo.new w1 3 #[.int .i64 (-1), .int .i64 1, .int .i64 256, .int .i64 4294967296])) rfl (by simp [maxLen]) (by omega)⟩
  have HI:=Fs hI
  have HZ:=Fs (HY.out.alloc (.cells #[.int .i64 (-1), .int .i64 1, .int .i64 256, .int .i64 4294967296] 3))
  clear hI
  go_wp2_with fail
  refine (Tv b w1.heap.size (w1.heap.size+1) (w1.heap.size+1) v _ l [-1,1,256,4294967296] _ HZ.out.cur HI.out (by omega) (by simp) (by simp)).mono ?_
  rintro e w2 ⟨⟨y,hy,rfl⟩,hs,hzq,hc2⟩
  have HQ:=Fs (HZ.out.step hs hc2)
  clear hzq hs hc2 HZ HI HY hy
  obtain ⟨⟨p0,p1,p2⟩,g0,g1,g2⟩:=HQ.out.vbox.c3
  obtain ⟨⟨r0,r1,r2⟩,e0,e1,e2⟩:=HQ.out.res.c3
  go_wp2
  obtain ⟨Wf,hWf,hR,hE⟩:=(HQ.out.num y).fin
  simp only [VM.vb_mk,VM.vi_mk] at hWf hR hE
  rw [←hWf]
  obtain ⟨⟨t0,t1,t2⟩, -⟩:=hR.c3
  exact bodyPost_ret (v:= .agg #[.int .i64 y, .slice A1 xb.length c1, .slice A2 xl.length c2]) (by simp [results,results52,go_sem,t0,t1,t2]) rfl hE
 ·obtain ⟨⟨p0,p1,p2⟩,g0,g1,g2⟩:=HY.out.vbox.c3
  have HZ:=Fs (HY.out.alloc (.cells #[.int .u8 1] 5))
  go_wp2_with (at_builtin;refine Xv _ rfl (.tmp 25) (.tmp 26) 22 rfl lo 5 i1 (.int .u8 0) 1 1 underlying22 gi gz0 gz1 gz2 rfl (by decide) _ xb.length _ rfl (by exact HZ.out.own.bytes) _ 1 _ [u8v 1] rfl (by exact Pq rfl) (by simp [u8v,Value.oneCell']) (by omega) (by unfold maxLen;omega) (by simp;omega) ?_;intro v2 w2 own2 hg2 hv2;obtain ⟨An,cn,rfl⟩:=Zq own2;have HB:=Fs (HZ.out.byte own2 hg2 hv2);clear own2 hg2 hv2 p0 p1 p2 g0 g1 g2;obtain ⟨⟨p0,p1,p2⟩,g0,g1,g2⟩:=Zo.c3 HB.out.1;obtain ⟨⟨r0,r1,r2⟩,e0,e1,e2⟩:=Zo.c3 HB.out.2.1)
  obtain ⟨Wf,hWf,hR,hE⟩:=(HB.out.2.2).fin
  try simp only [VM.n_mk,VM.vb_mk,VM.vi_mk,VM.b_mk,VM.items_mk] at hWf hR hE
  rw [←hWf]
  obtain ⟨⟨t0,t1,t2⟩, -⟩:=hR.c3
  exact bodyPost_ret (v:= .agg #[.int .i64 xn, .slice An (xb.length+1) cn, .slice A2 xl.length c2]) (by simp [results,results52,go_sem,t0,t1,t2]) rfl hE
 ·obtain ⟨⟨p0,p1,p2⟩,g0,g1,g2⟩:=HY.out.vbox.c3
  have HZ:=Fs (HY.out.alloc (.cells #[.int .i64 0, .slice none 0 0, .slice none 0 0] 29))
  go_wp2_with (at_builtin;refine Xv _ rfl (.tmp 32) (.tmp 34) 27 rfl lo 29 i0 (.agg #[.int .i64 0, .slice none 0 0, .slice none 0 0]) 3 56 underlying27 hi hz0 hz1 hz2 rfl (by decide) _ xl.length _ rfl (by exact HZ.out.own.row) _ 1 _ (Ze (.mk 0 [] (.slice none 0 0) (.slice none 0 0) [])) rfl (by exact Tj (xs:=Ze (.mk 0 [] (.slice none 0 0) (.slice none 0 0) [])) (Zo.new w1 _ _) rfl (Nat.lt_succ_self _)) (by simp [Ze,Value.oneCell']) (by omega) (by unfold maxLen;omega) (by simp;omega) ?_;intro v2 w2 own2 hg2 hv2;obtain ⟨An,cn,rfl⟩:=Zq own2;have HB:=Fs (HZ.out.item own2 hg2 hv2);clear own2 hg2 hv2 p0 p1 p2 g0 g1 g2;obtain ⟨⟨p0,p1,p2⟩,g0,g1,g2⟩:=Zo.c3 HB.out.1;obtain ⟨⟨r0,r1,r2⟩,e0,e1,e2⟩:=Zo.c3 HB.out.2.1)
  obtain ⟨Wf,hWf,hR,hE⟩:=(HB.out.2.2).fin
  try simp only [VM.n_mk,VM.vb_mk,VM.vi_mk,VM.b_mk,VM.items_mk] at hWf hR hE
  rw [←hWf]
  obtain ⟨⟨t0,t1,t2⟩, -⟩:=hR.c3
  exact bodyPost_ret (v:= .agg #[.int .i64 xn, .slice A1 xb.length c1, .slice An (xl.length+1) cn]) (by simp [results,results52,go_sem,t0,t1,t2]) rfl hE
 ·obtain ⟨⟨p0,p1,p2⟩,g0,g1,g2⟩:=HY.out.vbox.c3
  obtain ⟨⟨r0,r1,r2⟩,e0,e1,e2⟩:=HY.out.res.c3
  by_cases hn:0 < xl.length
  ·have hnI:(0:Int) < (xl.length:Int):=by omega
   have hnd:decide (0 < xl.length)=true:=Fy hn
   have hnd2:decide ((0:Int) < (xl.length:Int))=true:=Fy hnI
   go_wp2_with fail
   refine (Qn b b v l xl.length w1 HY.out.cur (by omega) (by omega)).mono ?_
   rintro e w2 ⟨⟨j,rfl,hj0,hj1⟩,hs,hzq,hc2⟩
   obtain ⟨j,rfl⟩:=Int.eq_ofNat_of_zero_le hj0
   have hj:j < xl.length:=by omega
   have HZ:=Fs (HY.out.step hs hc2).drew
   have HZ0:=Fs (HY.out.step hs hc2)
   clear hzq hs hc2 HY hj0 hj1 p0 p1 p2 g0 g1 g2 r0 r1 r2 e0 e1 e2
   obtain ⟨g,cc,ev,hgo⟩:=Jp HZ.out.own.row hn
   cases ev
   have hgw:=HZ.out.bks g (VM.bks_vi hgo)
   obtain ⟨⟨j0,j1,j2⟩,jf⟩:=row3 (i:=j) HZ0.out.own rfl hj
   obtain ⟨A5,c5,e5⟩:=Zq (HZ0.out.own.its xl[j] (Fw hj)).bytes
   obtain ⟨A6,c6,e6⟩:=Zq (HZ0.out.own.its xl[j] (Fw hj)).row
   simp only [VM.items_mk] at j0 j1 j2
   rw [e5] at j1
   rw [e6] at j2
   have hbent:=IH.out.1 xl[j] (Fw hj) lo w2.drew HZ.out.cur (HZ.out.own.its _ (Fw hj)) (Fh HZ.out.nd hj).1 hblo (by have:=HZ.out.hz;omega) (by have h1:=IH.out.2;have:=VM.size_item (x:= .mk xn xb (.slice A1 xb.length c1) (.slice (some ⟨g,0,none⟩) xl.length c2) xl) hj h1;exact this)
   unfold Qs at hbent
   rw [e5,e6] at hbent
   have HBN:=Fs hbent
   have HV2:=Fs (Ft e5 e6)
   clear hbent e5 e6 jf
   have hjl:=hj
   have v2c:w2.cell? ⟨w.heap.size,2,none⟩=some (.slice (some ⟨g,0,none⟩) xl.length c2):=HZ0.out.vbox.cell 2 rfl
   go_wp2_with fail
   refine Qr (S:=(fun w9=> w9.cell? ⟨w.heap.size,2,none⟩=some (.slice (some ⟨g,0,none⟩) xl.length c2)∧w9.cell? ⟨g,j*3,none⟩=some (.int .i64 xl[j].n)∧w9.cell? ⟨g,j*3+1,none⟩=some (.slice A5 xl[j].b.length c5)∧w9.cell? ⟨g,j*3+2,none⟩=some (.slice A6 xl[j].items.length c6))) 11 (by kernel_rfl) ?_ (fun hHeld=> ?_)
   ·(try dsimp only);exact ⟨v2c,j0,j1,j2⟩
   refine Zt 0 (some 48) hHeld _ ?_;try go_frame
   refine Zt 1 (some 49) hHeld _ ?_;try go_frame
   refine Zt 2 (some 50) hHeld _ ?_;try go_frame
   refine Zt 3 (some 51) hHeld _ ?_;try go_frame
   refine Zt 4 (some 52) hHeld _ ?_;try go_frame
   refine Zt 5 (some 53) hHeld _ ?_;try go_frame
   refine Zt 6 (some 54) hHeld _ ?_;try go_frame
   refine Zt 7 (some 55) hHeld _ ?_;try go_frame
   refine Zt 8 (some 56) hHeld _ ?_;try go_frame
   refine Qw 9 (fun K hK=> ?_)
   go_simp
   refine HBN.out.mono ?_;rintro e X4 ⟨y,rfl,hys,hyr,hyo,hyc⟩;have HB:=Fs (HZ.out.bent hj hyr hyo hyc hys rfl);obtain ⟨A7,c7,e7, -⟩:=hyr.now.bytes.open_;obtain ⟨A8,c8,e8, -⟩:=hyr.now.its.open_;have HE:=Fs (Ft e7 e8);unfold Qs;rw [e7,e8];clear hys hyr hyo hyc e7 e8;have k2:X4.cell? ⟨w.heap.size,2,none⟩=some (.slice (some ⟨g,0,none⟩) xl.length c2):=HB.out.2.1.cell 2 rfl;have hrw:=HB.out.1;have kc:∀u,u < 3→X4.cell? ⟨g,j*3+u,none⟩=(Ze xl[j])[u]?:=(fun u hu=> by have hmm:=Nat.mul_le_mul_right 3 (show j+1≤xl.length by omega);rw [hrw.cellAt (j*3+u) (by show j*3+u < xl.length*3;omega)];exact Vo Ze 3 Qj xl j u hj hu);have k3:X4.cell? ⟨g,j*3,none⟩=some (.int .i64 xl[j].n):=kc 0 (by omega);have k4:X4.cell? ⟨g,j*3+1,none⟩=some (.slice A5 xl[j].b.length c5):=(by rw [kc 1 (by omega),←HV2.out.1];rfl);have k5:X4.cell? ⟨g,j*3+2,none⟩=some (.slice A6 xl[j].items.length c6):=(by rw [kc 2 (by omega),←HV2.out.2];rfl);have kf:=hrw.frozenAt;have kf0:=kf (j*3);have kf1:=kf (j*3+1);have kf2:=kf (j*3+2);clear kc hrw kf
   (try go_wp2_with fail)
   refine hK.out _ _ ?_ (fun hHeld=> ?_)
   ·(try dsimp only);exact ⟨k2,k3,k4,k5⟩
   clear hK K
   try go_frame
   refine Zt 10 (some 58) hHeld _ ?_;try go_frame
   refine Uz (fun K hK=> ?_)
   (try go_simp)
   go_simp
   refine hK.out _ _ ?_
   clear hK K
   try go_frame
   refine Js (by kernel_rfl) ?_ _
   obtain ⟨Wp,hWp⟩:∃Wp,Wp=((X4.setCell ⟨g,j*3,none⟩ (.int .i64 y.n)).setCell ⟨g,j*3+1,none⟩ (.slice A7 y.b.length c7)).setCell ⟨g,j*3+2,none⟩ (.slice A8 y.items.length c8):=⟨_,rfl⟩
   rw [←hWp]
   have hpw:Qu X4 g (j*3) (Ze y)=Wp:=by rw [hWp];unfold Ze;rw [HE.out.1,HE.out.2];rfl
   have hBE:=HB.out.2.2.2.2
   rw [hpw] at hBE
   have HBE:=Fs hBE
   clear hWp hpw hBE HB HZ HZ0 k2 k3 k4 k5 kf0 kf1 kf2 j0 j1 j2 v2c
   obtain ⟨⟨p0,p1,p2⟩,g0,g1,g2⟩:=Zo.c3 (a0:= .int .i64 xn) (a1:= .slice A1 xb.length c1) (a2:= .slice (some ⟨g,0,none⟩) xl.length c2) HBE.out.vbox
   obtain ⟨⟨r0,r1,r2⟩,e0,e1,e2⟩:=HBE.out.res.c3
   go_wp2
   obtain ⟨Wf,hWf,hR,hE⟩:=(HBE.out).fin
   try simp only [VM.n_mk,VM.vb_mk,VM.vi_mk,VM.b_mk,VM.items_mk] at hWf hR hE
   rw [←hWf]
   obtain ⟨⟨t0,t1,t2⟩, -⟩:=hR.c3
   exact bodyPost_ret (v:= .agg #[.int .i64 xn, .slice A1 xb.length c1, .slice (some ⟨g,0,none⟩) xl.length c2]) (by simp [results,results52,go_sem,t0,t1,t2]) rfl hE
  ·have hnI:¬(0:Int) < (xl.length:Int):=by omega
   have hnd:decide (0 < xl.length)=false:=Fx hn
   have hnd2:decide ((0:Int) < (xl.length:Int))=false:=Fx hnI
   go_wp2
   obtain ⟨Wf,hWf,hR,hE⟩:=(HY.out.same).fin
   try simp only [VM.n_mk,VM.vb_mk,VM.vi_mk,VM.b_mk,VM.items_mk] at hWf hR hE
   rw [←hWf]
   obtain ⟨⟨t0,t1,t2⟩, -⟩:=hR.c3
   exact bodyPost_ret (v:= .agg #[.int .i64 xn, .slice A1 xb.length c1, .slice A2 xl.length c2]) (by simp [results,results52,go_sem,t0,t1,t2]) rfl hE
 ·obtain ⟨⟨p0,p1,p2⟩,g0,g1,g2⟩:=HY.out.vbox.c3
  obtain ⟨⟨r0,r1,r2⟩,e0,e1,e2⟩:=HY.out.res.c3
  by_cases hn:0 < xl.length
  ·have hnI:(0:Int) < (xl.length:Int):=by omega
   have hnd:decide (0 < xl.length)=true:=Fy hn
   have hnd2:decide ((0:Int) < (xl.length:Int))=true:=Fy hnI
   have hcut:=Ma (P:=prog) underlying27 sizeOf29 A2 xl.length c2 1 1 rfl hn
   go_wp2
   obtain ⟨Wf,hWf,hR,hE⟩:=(HY.out.tail hn rfl).fin
   try simp only [VM.n_mk,VM.vb_mk,VM.vi_mk,VM.b_mk,VM.items_mk] at hWf hR hE
   rw [←hWf]
   obtain ⟨⟨t0,t1,t2⟩, -⟩:=hR.c3
   exact bodyPost_ret (v:= .agg #[.int .i64 xn, .slice A1 xb.length c1, .slice (cutA A2 c2 1 3) (xl.length - 1) (c2 - 1)]) (by simp [results,results52,go_sem,t0,t1,t2]) rfl hE
  ·have hnI:¬(0:Int) < (xl.length:Int):=by omega
   have hnd:decide (0 < xl.length)=false:=Fx hn
   have hnd2:decide ((0:Int) < (xl.length:Int))=false:=Fx hnI
   go_wp2
   obtain ⟨Wf,hWf,hR,hE⟩:=(HY.out.same).fin
   try simp only [VM.n_mk,VM.vb_mk,VM.vi_mk,VM.b_mk,VM.items_mk] at hWf hR hE
   rw [←hWf]
   obtain ⟨⟨t0,t1,t2⟩, -⟩:=hR.c3
   exact bodyPost_ret (v:= .agg #[.int .i64 xn, .slice A1 xb.length c1, .slice A2 xl.length c2]) (by simp [results,results52,go_sem,t0,t1,t2]) rfl hE
end Go.Proofs.YteldgdelmaeokaaGreatDoor
