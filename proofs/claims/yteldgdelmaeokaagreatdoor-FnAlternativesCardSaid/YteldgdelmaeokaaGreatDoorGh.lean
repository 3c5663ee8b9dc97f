/- Out of ValV, MinMax: the walks and plain laws that the claim needs. No condition but those that each theorem names. -/
import Derived.Test.YteldgdelmaeokaaGreatDoorGg
import Derived.Test.YteldgdelmaeokaaGreatDoorGf
import Derived.WalkSpells
import Derived.WalkLawsBesides
import Derived.Deep.RegionHeld3
import Derived.Test.YteldgdelmaeokaaGreatDoorGa
set_option linter.unusedSimpArgs false
set_option linter.unusedVariables false
set_option maxHeartbeats 4000000
set_option maxRecDepth 100000
namespace Go.Proofs.YteldgdelmaeokaaGreatDoor
open Go.Proofs.Tryz Go.RowKit
theorem Ik {D:List Zi} {i:Nat} {r:Zi} {n:Int} {nb ni j:Nat} (h:Xi D i r=true) (ho:Qh D r n nb ni=true) (hj:j < ni):∃q:Nat,Qk r n j=q∧q < i:=by
 have hk:=Yc h
 have hkid:∀t (ht:t < r.kids.length),∃q:Nat,Xt r t=q∧q < i:=fun t ht=> by rw [Jb r t ht];exact Pd h ht
 rcases Ok hk with q|q|q|q|q|q|q|q|q|q
 ·rw [own_1 q] at ho;simp at ho;omega
 ·rw [own_2 q] at ho;simp at ho;omega
 ·rw [own_3 q] at ho;simp at ho;omega
 ·rw [own_4 q] at ho;simp at ho;omega
 ·rw [Fk q];exact hkid 1 (by rw [Ir hk q];omega)
 ·rw [own_6 q] at ho
  simp at ho
  rw [Fj q (by omega)]
  exact Pd h _
 ·rw [own_7 q] at ho
  simp at ho
  obtain ⟨-,h1,h2⟩:=ho
  have hj0:j=0:=by omega
  subst hj0
  rcases Ow r n with e|⟨t,ht,e, -⟩
  ·rw [Pf q e] at h2;omega
  ·rw [Kj q e];exact hkid (t+1) (by rw [Lh hk q];omega)
 ·rw [Pt (.inl q)];exact hkid 0 (by rw [Lg hk (.inl q)];omega)
 ·rw [Pt (.inr q)];exact hkid 0 (by rw [Lg hk (.inr q)];omega)
 ·rw [own_10 q] at ho;simp at ho;omega
theorem Mx {D:List Zi} {k:Nat} (hk:k < D.length) (x:Zv):Zn D k x=(Qh D D[k] x.n x.b.length x.items.length && Yb D D[k] x.n 0 x.items):=by
 rw [Vq]
 unfold Jo
 rw [if_pos (by omega),Int.toNat_natCast,List.getElem?_eq_getElem hk]
def VdS (x:VM):Prop:=∀(vD:Value) (l:List RM) (k B:Nat) (w:World),Qz w B vD l→B≤w.heap.size→(∀r∈l,r.d.ok)→(∀r∈l,r.d.small 1048576)→Yf (l.map RM.d)=true→k < l.length→x.rd w B→x.d.size≤4194304→
 Calls prog 45 #[.agg #[vD], .int .i64 k,Qs x] w fun e w'=> e= .returned (.bool (Zn (l.map RM.d) k x.d))∧Below w.heap.size w w'
theorem l9Valid_any (x:VM):VdS x:=by
 induction x using VM.induct with
 |h xn xb xvb xvi L ih=>
 intro vD l k B w h hB ok sm hv hkl hx hs
 rw [VM.d_mk,Zv.size_mk] at hs
 have hll:=Zv.length_le (L.map VM.d)
 rw [List.length_map] at hll
 have hsm:∀y∈L,y.d.size≤4194304:=fun y hy=> by have:=Zv.size_le_of_mem (List.mem_map_of_mem (f:=VM.d) hy);omega
 have hlm:(l.map RM.d).length=l.length:=List.length_map ..
 have hok:=Ui hv (k:=k) (by rw [hlm];exact hkl)
 rw [List.getElem_map] at hok
 have hkR:=Yc hok
 have hVV:=Mx (D:=l.map RM.d) (k:=k) (by rw [hlm];exact hkl) (Zv.mk xn xb (L.map VM.d))
 rw [List.getElem_map,Zv.n_mk,Zv.b_mk,Zv.items_mk,show (L.map VM.d).length=L.length from List.length_map ..] at hVV
 rw [VM.d_mk]
 have hOWN:∀W,Below w.heap.size w W→Calls prog 68 #[.agg #[vD],Ja l[k],Qs (.mk xn xb xvb xvi L)] W fun e w'=> e= .returned (.bool (Qh (l.map RM.d) l[k].d xn xb.length L.length))∧Below W.heap.size W w':=fun W hb=>
  l9Own_any vD l l[k] (.mk xn xb xvb xvi L) B W (h.below (hb.mono hB)) (by have:=hb.size;omega) ok ((h.2 _ (Fw hkl)).below (hb.mono hB)) (ok _ (Fw hkl)) (sm _ (Fw hkl)) hkR (hx.bel (hb.mono hB)) (by show xb.length≤_;omega) (by show L.length≤_;omega)
 have hITM:∀W (j:Nat),j≤4194304→Below w.heap.size w W→Calls prog 37 #[Ja l[k], .int .i64 xn, .int .i64 j] W fun e w'=> e= .returned (.int .i64 (Qk l[k].d xn j))∧Below W.heap.size W w':=fun W j hj hb=>
  Vm (l.map RM.d) l[k] xn j B W ((h.2 _ (Fw hkl)).below (hb.mono hB)) (by have:=hb.size;omega) hkR (sm _ (Fw hkl)) hj
 have hREC:∀(y:VM),y∈L→∀(q:Nat),q < l.length→∀W,Below w.heap.size w W→Calls prog 45 #[.agg #[vD], .int .i64 q,Qs y] W fun e w'=> e= .returned (.bool (Zn (l.map RM.d) q y.d))∧Below W.heap.size W w':=fun y hy q hq W hb=>
  ih y hy vD l q B W (h.below (hb.mono hB)) (by have:=hb.size;omega) ok sm hv hq ((hx.its.2 y hy).bel (hb.mono hB)) (hsm y hy)
 obtain ⟨A,c,rfl,hc,hm, -⟩:=h.open_
 unfold maxLen at hm
 obtain ⟨b,off,A1,c1,A2,c2,A3,c3,A4,c4,rfl,hbB,e1,e2,e3,e4,m1,m2,m3,m4,hcell⟩:=Zw h k hkl
 obtain ⟨Ax,cx,ex, -⟩:=hx.bytes.open_
 obtain ⟨Ay,cy,ey,hcy,hmy,hic⟩:=hx.its.open_
 simp only [VM.vb_mk,VM.b_mk,VM.vi_mk,VM.items_mk] at ex ey hic hcy
 subst ex ey
 unfold Ja Qs at hOWN
 unfold Ja at hITM
 simp only [VM.n_mk,VM.vb_mk,VM.vi_mk] at hOWN
 rw [e1,e2,e3,e4] at hOWN hITM
 have HOWN:=Fs hOWN
 have HITM:=Fs hITM
 have HREC:=Fs hREC
 have HC:=Fs hcell
 have HIC:=Fs hic
 have HVV:=Fs hVV
 have HOK:=Fs hok
 clear hOWN hITM hREC hcell hic hVV hok hkR hx h ih hsm ok sm hv e1 e2 e3 e4 m1 m2 m3 m4
 have HMAP:=Fs (show ∀j (hj:j < L.length),(L.map VM.d)[j]'(by rw [List.length_map];exact hj)=L[j].d from fun j hj=> by rw [List.getElem_map])
 generalize l[k]=r at*
 generalize r.d=d at*
 clear hlm
 show Calls prog 45 #[.agg #[.slice (some ⟨b,off,none⟩) l.length c], .int .i64 k, .agg #[.int .i64 xn, .slice Ax xb.length cx, .slice Ay L.length cy]] w _
 obtain ⟨W0,hW0⟩:∃W0,W0=((w.alloc (.cells #[.slice (some ⟨b,off,none⟩) l.length c] 26)).alloc (.cells #[.int .i64 xn, .slice Ax xb.length cx, .slice Ay L.length cy] 29)):=⟨_,rfl⟩
 have hb0:Below w.heap.size w W0:=by rw [hW0];exact ((Fv w.heap.size w).alloc (Fu _) _).alloc (by simp) _
 obtain ⟨W1,hW1⟩:∃W1,W1=W0.alloc (.cells #[.string d.name, .int .i64 d.kind, .int .i64 d.size, .bool d.little, .slice A1 d.bytes.length c1, .slice A2 d.names.length c2, .slice A3 d.tags.length c3, .slice A4 d.kids.length c4] 50):=⟨_,rfl⟩
 have hb1:Below w.heap.size w W1:=by rw [hW1];exact hb0.alloc hb0.size _
 have hz:W1.heap.size=w.heap.size+3:=by rw [hW1,hW0];simp
 have y0:W1.cell? ⟨w.heap.size,0,none⟩=some (.slice (some ⟨b,off,none⟩) l.length c):=by rw [hW1,hW0];simp [go_sem]
 have v0:W1.cell? ⟨w.heap.size+1,0,none⟩=some (.int .i64 xn):=by rw [hW1,hW0];simp [go_sem]
 have v2:W1.cell? ⟨w.heap.size+1,2,none⟩=some (.slice Ay L.length cy):=by rw [hW1,hW0];simp [go_sem]
 have u0:W1.cell? ⟨w.heap.size+1+1,0,none⟩=some (.string d.name):=by rw [hW1,hW0];simp [go_sem]
 have u1:W1.cell? ⟨w.heap.size+1+1,1,none⟩=some (.int .i64 d.kind):=by rw [hW1,hW0];simp [go_sem]
 have u2:W1.cell? ⟨w.heap.size+1+1,2,none⟩=some (.int .i64 d.size):=by rw [hW1,hW0];simp [go_sem]
 have u3:W1.cell? ⟨w.heap.size+1+1,3,none⟩=some (.bool d.little):=by rw [hW1,hW0];simp [go_sem]
 have u4:W1.cell? ⟨w.heap.size+1+1,4,none⟩=some (.slice A1 d.bytes.length c1):=by rw [hW1,hW0];simp [go_sem]
 have u5:W1.cell? ⟨w.heap.size+1+1,5,none⟩=some (.slice A2 d.names.length c2):=by rw [hW1,hW0];simp [go_sem]
 have u6:W1.cell? ⟨w.heap.size+1+1,6,none⟩=some (.slice A3 d.tags.length c3):=by rw [hW1,hW0];simp [go_sem]
 have u7:W1.cell? ⟨w.heap.size+1+1,7,none⟩=some (.slice A4 d.kids.length c4):=by rw [hW1,hW0];simp [go_sem]
 have hzz:w.heap.size+3≤W1.heap.size:=by omega
 obtain ⟨x0,x1,x2,x3,x4,x5,x6,x7⟩:=HC.out W0 (Zu hb0 hB)
 rw [hW0] at x0 x1 x2 x3 x4 x5 x6 x7
 have HW:=Fs (Ft hW0 hW1)
 clear hz hW0 hW1 hb0
 cases hown:Qh (l.map RM.d) d xn xb.length L.length
 ·have HX:=Fs (HVV.out.trans (show (Qh (l.map RM.d) d xn xb.length L.length && Yb (l.map RM.d) d xn 0 (L.map VM.d))=false by simp [hown]))
  rw [hown] at HOWN
  clear hown
  go_enter func45,ntmps45
  go_wp2_with fail
  rw [←HW.out.1,←HW.out.2]
  clear x0 x1 x2 x3 x4 x5 x6 x7 HW
  refine (HOWN.out _ hb1).mono ?_
  rintro e w1 ⟨rfl,bel⟩
  have b1:=Zb bel hb1
  clear bel
  go_wp2
  go_ret
  exact ⟨Zd HX.out.symm,b1⟩
 ·have HX:=Fs (HVV.out.trans (show (Qh (l.map RM.d) d xn xb.length L.length && Yb (l.map RM.d) d xn 0 (L.map VM.d))=Yb (l.map RM.d) d xn 0 (L.map VM.d) by simp [hown]))
  have HOI:=Fs (fun j (hj:j < L.length)=> Ik HOK.out hown hj)
  rw [hown] at HOWN
  clear hown
  go_enter func45,ntmps45
  go_wp2_with fail
  rw [←HW.out.1,←HW.out.2]
  clear x0 x1 x2 x3 x4 x5 x6 x7 HW
  refine (HOWN.out _ hb1).mono ?_
  rintro e w1 ⟨rfl,bel⟩
  have b1:=Zb bel hb1
  have z1:w.heap.size+3≤w1.heap.size:=by have:=bel.size;omega
  have y1:=Ec bel y0
  have v1:=Ec bel v0
  have v3:=Ec bel v2
  have r0:=Ec bel u0
  have r1:=Ec bel u1
  have r2:=Ec bel u2
  have r3:=Ec bel u3
  have r4:=Ec bel u4
  have r5:=Ec bel u5
  have r6:=Ec bel u6
  have r7:=Ec bel u7
  clear bel y0 v0 v2 u0 u1 u2 u3 u4 u5 u6 u7
  go_wp2
  go_loopw [8] (fun i wr=> ∃j:Nat,j≤L.length∧i= .int .i64 j∧Below w1.heap.size w1 wr∧Hid (∀q (hq:q < j) (hl:q < L.length),Zn (l.map RM.d) (Qk d xn q) L[q].d=true)) (fun i _=> L.length - (intOf i).toNat)
  case atStart=> exact ⟨0,Eb _,rfl,Fv _ _,Fs (fun q hq=> by omega)⟩
  case round=>
   obtain ⟨j,hj,rfl,hb,HN⟩:=hrel
   have hbw:=b1.trans (hb.mono (by omega))
   have s0:=Zc y1 hb (by omega)
   have s1:=Zc v1 hb (by omega)
   have s2:=Zc v3 hb (by omega)
   by_cases hlt:j < L.length
   ·obtain ⟨bi,fi,rfl,hbi,e0,e1,e2⟩:=HIC.out j hlt
    obtain ⟨q,hq,hqk⟩:=HOI.out j hlt
    have hql:q < l.length:=by omega
    have i0:=Zc e0 (hbw.mono hB) hbi
    have i1:=Zc e1 (hbw.mono hB) hbi
    have i2:=Zc e2 (hbw.mono hB) hbi
    have t0:=Zc r0 hb (by omega)
    have t1:=Zc r1 hb (by omega)
    have t2:=Zc r2 hb (by omega)
    have t3:=Zc r3 hb (by omega)
    have t4:=Zc r4 hb (by omega)
    have t5:=Zc r5 hb (by omega)
    have t6:=Zc r6 hb (by omega)
    have t7:=Zc r7 hb (by omega)
    have HQ:=Fs hq
    have HI:=Fs (fun W hb=> HITM.out W j (by omega) hb)
    rw [hq] at HI
    have HR:=Fs (fun W hb=> HREC.out L[j] (Fw hlt) q hql W hb)
    clear hq hqk e0 e1 e2
    cases hval:Zn (l.map RM.d) q L[j].d
    ·have HY:=Fs (HX.out.trans (Ln (j:=j) (by rw [List.length_map];exact hlt) (by rw [HMAP.out j hlt,HQ.out];exact hval)))
     rw [hval] at HR
     clear hval
     go_wp2_with fail
     refine wp_region_held_drew (S:=(fun w9=> w9.cell? ⟨w.heap.size,0,none⟩=some (.slice (some ⟨b,off,none⟩) l.length c)∧w9.cell? ⟨w.heap.size+1,0,none⟩=some (.int .i64 xn)∧w9.cell? ⟨w.heap.size+1,2,none⟩=some (.slice (some ⟨bi,fi,none⟩) L.length cy)∧w9.cell? ⟨w.heap.size+1+1,0,none⟩=some (.string d.name)∧w9.cell? ⟨w.heap.size+1+1,1,none⟩=some (.int .i64 d.kind)∧w9.cell? ⟨w.heap.size+1+1,2,none⟩=some (.int .i64 d.size)∧w9.cell? ⟨w.heap.size+1+1,3,none⟩=some (.bool d.little)∧w9.cell? ⟨w.heap.size+1+1,4,none⟩=some (.slice A1 d.bytes.length c1)∧w9.cell? ⟨w.heap.size+1+1,5,none⟩=some (.slice A2 d.names.length c2)∧w9.cell? ⟨w.heap.size+1+1,6,none⟩=some (.slice A3 d.tags.length c3)∧w9.cell? ⟨w.heap.size+1+1,7,none⟩=some (.slice A4 d.kids.length c4)∧w9.cell? ⟨bi,fi+j*3,none⟩=some (.int .i64 L[j].n)∧w9.cell? ⟨bi,fi+j*3+1,none⟩=some L[j].vb∧w9.cell? ⟨bi,fi+j*3+2,none⟩=some L[j].vi)) (by kernel_rfl) ?_ (fun hHeld=> ?_)
     ·(try dsimp only);exact ⟨s0,s1,s2,t0,t1,t2,t3,t4,t5,t6,t7,i0,i1,i2⟩
     refine Za 0 (some 26) hHeld _ ?_;try go_frame
     refine Za 1 (some 27) hHeld _ ?_;try go_frame
     refine Za 2 (some 28) hHeld _ ?_;try go_frame
     refine Za 3 (some 29) hHeld _ ?_;try go_frame
     refine Za 4 (some 30) hHeld _ ?_;try go_frame
     refine Za 6 (some 32) hHeld _ ?_;try go_frame
     refine Za 7 (some 33) hHeld _ ?_;try go_frame
     refine Za 8 (some 34) hHeld _ ?_;try go_frame
     refine Za 9 (some 35) hHeld _ ?_;try go_frame
     refine Za 10 (some 36) hHeld _ ?_;try go_frame
     refine Zh 5 (fun K hK=> ?_)
     go_simp
     refine (HI.out _ hbw.drew).mono ?_;rintro e w7 ⟨rfl,bel7⟩;have bq:=Zb bel7 ((Fv wr.heap.size wr).drew);have bw:=Zb bel7 hbw.drew
     (try go_wp2_with fail)
     refine hK.out _ _ ?_ (fun hHeld=> ?_)
     ·(try dsimp only);exact ⟨Ec bq s0,Ec bq s1,Ec bq s2,Ec bq t0,Ec bq t1,Ec bq t2,Ec bq t3,Ec bq t4,Ec bq t5,Ec bq t6,Ec bq t7,Ec bq i0,Ec bq i1,Ec bq i2⟩
     clear hK K
     try go_frame
     refine Zh 11 (fun K hK=> ?_)
     go_simp
     refine (HR.out _ bw).mono ?_;rintro e w8 ⟨rfl,bel8⟩;have bq:=Zb bel8 bq;have bw:=Zb bel8 bw
     (try go_wp2_with fail)
     refine hK.out _ _ ?_ (fun hHeld=> ?_)
     ·(try dsimp only);exact ⟨Ec bq s0,Ec bq s1,Ec bq s2,Ec bq t0,Ec bq t1,Ec bq t2,Ec bq t3,Ec bq t4,Ec bq t5,Ec bq t6,Ec bq t7,Ec bq i0,Ec bq i1,Ec bq i2⟩
     clear hK K
     try go_frame
     refine Za 12 (some 38) hHeld _ ?_;try go_frame
     refine wpAnyH_done (by kernel_rfl) ?_ _
     have HB:=Fs bw
     clear bel7 bel8 bq bw t0 t1 t2 t3 t4 t5 t6 t7 i0 i1 i2
     go_wp2
     go_ret
     exact ⟨Zd HY.out.symm,HB.out⟩
    ·have HM:=Fs (show ∀q (hq:q < j+1) (hl:q < L.length),Zn (l.map RM.d) (Qk d xn q) L[q].d=true from fun q' hq' hl'=> by
      by_cases e:q'=j
      ·subst e;rw [HQ.out];exact hval
      ·exact HN.out q' (by omega) hl')
     rw [hval] at HR
     clear hval
     go_wp2_with fail
     refine wp_region_held_drew (S:=(fun w9=> w9.cell? ⟨w.heap.size,0,none⟩=some (.slice (some ⟨b,off,none⟩) l.length c)∧w9.cell? ⟨w.heap.size+1,0,none⟩=some (.int .i64 xn)∧w9.cell? ⟨w.heap.size+1,2,none⟩=some (.slice (some ⟨bi,fi,none⟩) L.length cy)∧w9.cell? ⟨w.heap.size+1+1,0,none⟩=some (.string d.name)∧w9.cell? ⟨w.heap.size+1+1,1,none⟩=some (.int .i64 d.kind)∧w9.cell? ⟨w.heap.size+1+1,2,none⟩=some (.int .i64 d.size)∧w9.cell? ⟨w.heap.size+1+1,3,none⟩=some (.bool d.little)∧w9.cell? ⟨w.heap.size+1+1,4,none⟩=some (.slice A1 d.bytes.length c1)∧w9.cell? ⟨w.heap.size+1+1,5,none⟩=some (.slice A2 d.names.length c2)∧w9.cell? ⟨w.heap.size+1+1,6,none⟩=some (.slice A3 d.tags.length c3)∧w9.cell? ⟨w.heap.size+1+1,7,none⟩=some (.slice A4 d.kids.length c4)∧w9.cell? ⟨bi,fi+j*3,none⟩=some (.int .i64 L[j].n)∧w9.cell? ⟨bi,fi+j*3+1,none⟩=some L[j].vb∧w9.cell? ⟨bi,fi+j*3+2,none⟩=some L[j].vi)) (by kernel_rfl) ?_ (fun hHeld=> ?_)
     ·(try dsimp only);exact ⟨s0,s1,s2,t0,t1,t2,t3,t4,t5,t6,t7,i0,i1,i2⟩
     refine Za 0 (some 26) hHeld _ ?_;try go_frame
     refine Za 1 (some 27) hHeld _ ?_;try go_frame
     refine Za 2 (some 28) hHeld _ ?_;try go_frame
     refine Za 3 (some 29) hHeld _ ?_;try go_frame
     refine Za 4 (some 30) hHeld _ ?_;try go_frame
     refine Za 6 (some 32) hHeld _ ?_;try go_frame
     refine Za 7 (some 33) hHeld _ ?_;try go_frame
     refine Za 8 (some 34) hHeld _ ?_;try go_frame
     refine Za 9 (some 35) hHeld _ ?_;try go_frame
     refine Za 10 (some 36) hHeld _ ?_;try go_frame
     refine Zh 5 (fun K hK=> ?_)
     go_simp
     refine (HI.out _ hbw.drew).mono ?_;rintro e w7 ⟨rfl,bel7⟩;have bq:=Zb bel7 ((Fv wr.heap.size wr).drew);have bw:=Zb bel7 hbw.drew
     (try go_wp2_with fail)
     refine hK.out _ _ ?_ (fun hHeld=> ?_)
     ·(try dsimp only);exact ⟨Ec bq s0,Ec bq s1,Ec bq s2,Ec bq t0,Ec bq t1,Ec bq t2,Ec bq t3,Ec bq t4,Ec bq t5,Ec bq t6,Ec bq t7,Ec bq i0,Ec bq i1,Ec bq i2⟩
     clear hK K
     try go_frame
     refine Zh 11 (fun K hK=> ?_)
     go_simp
     refine (HR.out _ bw).mono ?_;rintro e w8 ⟨rfl,bel8⟩;have bq:=Zb bel8 bq;have bw:=Zb bel8 bw
     (try go_wp2_with fail)
     refine hK.out _ _ ?_ (fun hHeld=> ?_)
     ·(try dsimp only);exact ⟨Ec bq s0,Ec bq s1,Ec bq s2,Ec bq t0,Ec bq t1,Ec bq t2,Ec bq t3,Ec bq t4,Ec bq t5,Ec bq t6,Ec bq t7,Ec bq i0,Ec bq i1,Ec bq i2⟩
     clear hK K
     try go_frame
     refine Za 12 (some 38) hHeld _ ?_;try go_frame
     refine wpAnyH_done (by kernel_rfl) ?_ _
     have HB:=Fs (hb.trans (bq.mono hb.size))
     clear bel7 bel8 bq bw t0 t1 t2 t3 t4 t5 t6 t7 i0 i1 i2
     go_wp2
     go_roundw
     case rel=> exact ⟨j+1,by omega,by go_num,HB.out,HM⟩
     case measure=> simp [intOf];omega
   ·have HY:=Fs (HX.out.trans (Ra fun q hq=> by rw [List.length_map] at hq;rw [HMAP.out q hq];exact HN.out q (by omega) hq))
    have HB:=Fs hbw
    clear hbw hb
    go_wp2
    go_ret
    exact ⟨Zd HY.out.symm,HB.out⟩
theorem Vl (vD:Value) (l:List RM) (i:Int) (x:VM) (B:Nat) (w:World) (h:Qz w B vD l) (hB:B≤w.heap.size) (ok:∀r∈l,r.d.ok) (sm:∀r∈l,r.d.small 1048576) (hx:x.rd w B) (hs:x.d.size≤4194304):
  Calls prog 15 #[.agg #[vD], .int .i64 i,Qs x] w fun e w'=> e= .returned (.bool (Qd (l.map RM.d) i && Zn (l.map RM.d) i x.d))∧Below w.heap.size w w':=by
 have hK:∀W,Below w.heap.size w W→Calls prog 44 #[.agg #[vD], .int .i64 i] W fun e w'=> e= .returned (.bool (Qd (l.map RM.d) i))∧Below W.heap.size W w':=fun W hb=>
  Rg vD l i B W (h.below (hb.mono hB)) (by have:=hb.size;omega) ok sm
 have hV:Qd (l.map RM.d) i=true→∀W,Below w.heap.size w W→Calls prog 45 #[.agg #[vD], .int .i64 i,Qs x] W fun e w'=> e= .returned (.bool (Zn (l.map RM.d) i x.d))∧Below W.heap.size W w':=fun hk W hb=> by
  obtain ⟨h0,h1⟩:=Vt hk
  rw [List.length_map] at h1
  obtain ⟨k,rfl⟩:=Int.eq_ofNat_of_zero_le h0
  exact l9Valid_any x vD l k B W (h.below (hb.mono hB)) (by have:=hb.size;omega) ok sm (Ua hk) (by omega) (hx.bel (hb.mono hB)) hs
 obtain ⟨A,c,rfl,hc,hm, -⟩:=h.open_
 obtain ⟨xn,xb,xvb,xvi,L⟩:=x
 obtain ⟨Ax,cx,ex, -⟩:=hx.bytes.open_
 obtain ⟨Ay,cy,ey, -⟩:=hx.its.open_
 simp only [VM.vb_mk,VM.b_mk,VM.vi_mk,VM.items_mk] at ex ey
 subst ex ey
 unfold Qs at hV ⊢
 simp only [VM.n_mk,VM.vb_mk,VM.vi_mk] at hV ⊢
 have hb0:Below w.heap.size w ((w.alloc (.cells #[.slice A l.length c] 26)).alloc (.cells #[.int .i64 xn, .slice Ax xb.length cx, .slice Ay L.length cy] 29)):=((Fv w.heap.size w).alloc (Fu _) _).alloc (by simp) _
 obtain ⟨W0,hW0⟩:∃W0,W0=((w.alloc (.cells #[.slice A l.length c] 26)).alloc (.cells #[.int .i64 xn, .slice Ax xb.length cx, .slice Ay L.length cy] 29)):=⟨_,rfl⟩
 rw [←hW0] at hb0
 have y0:W0.cell? ⟨w.heap.size,0,none⟩=some (.slice A l.length c):=by rw [hW0];simp [go_sem]
 have v0:W0.cell? ⟨w.heap.size+1,0,none⟩=some (.int .i64 xn):=by rw [hW0];simp [go_sem]
 have v1:W0.cell? ⟨w.heap.size+1,1,none⟩=some (.slice Ax xb.length cx):=by rw [hW0];simp [go_sem]
 have v2:W0.cell? ⟨w.heap.size+1,2,none⟩=some (.slice Ay L.length cy):=by rw [hW0];simp [go_sem]
 cases hk:Qd (l.map RM.d) i
 ·rw [hk] at hK
  have HK:=Fs hK
  clear hK hV hk hx h
  go_enter func15,ntmps15
  go_wp2_with fail
  rw [←hW0]
  clear hW0
  refine (HK.out _ hb0).mono ?_
  rintro e w1 ⟨rfl,bel⟩
  have b1:=Zb bel hb0
  clear bel
  go_wp2
  go_ret
  exact ⟨rfl,b1⟩
 ·rw [hk] at hK
  have HK:=Fs hK
  have HV:=Fs (hV hk)
  clear hK hV hk hx h
  generalize Zn (l.map RM.d) i (VM.mk xn xb (.slice Ax xb.length cx) (.slice Ay L.length cy) L).d=vv at*
  go_enter func15,ntmps15
  go_wp2_with fail
  rw [←hW0]
  clear hW0
  refine (HK.out _ hb0).mono ?_
  rintro e w1 ⟨rfl,bel⟩
  have b1:=Zb bel hb0
  have y1:=Ec bel y0
  have q0:=Ec bel v0
  have q1:=Ec bel v1
  have q2:=Ec bel v2
  clear bel y0 v0 v1 v2
  go_wp2_with fail
  refine (HV.out _ b1).mono ?_
  rintro e w2 ⟨rfl,bel⟩
  have b2:=Zb bel b1
  clear bel b1 y1 q0 q1 q2
  go_wp2
  go_ret
  exact ⟨rfl,b2⟩
theorem Fm (a b:Int) (B:Nat) (v:Value) (w:World) (h:Yt w B v [b]):
  Calls prog 97 #[.func (.func 98) #[] #[], .int .i64 a,v] w fun e w'=> e= .returned (.int .i64 (min a b))∧w=w':=by
 obtain ⟨A,c,rfl,hc,hm,hcell⟩:=h.one
 unfold maxLen at hm
 obtain ⟨bb,off,rfl,hbB,hc0⟩:=hcell 0 (by simp)
 have hc0:w.cell? ⟨bb,off,none⟩=some (.int .i64 b):=hc0
 simp only [List.length_cons,List.length_nil,Nat.zero_add] at hc
 clear hcell h
 simp only [List.length_cons,List.length_nil,Nat.zero_add]
 by_cases hlt:b < a
 ·have H:=Fs (show min a b=b by omega)
  go_enter func97,ntmps97
  go_wp2
  refine wp_loop_rounds 2 ?_
  rw [rounds_succ]
  go_wp2
  rw [rounds_succ]
  go_wp2
  go_ret
  exact ⟨Qe H.out.symm,rfl⟩
 ·have H:=Fs (show min a b=a by omega)
  go_enter func97,ntmps97
  go_wp2
  refine wp_loop_rounds 2 ?_
  rw [rounds_succ]
  go_wp2
  rw [rounds_succ]
  go_wp2
  go_ret
  exact ⟨Qe H.out.symm,rfl⟩
theorem Uv (a b:Int) (w:World):
  Calls prog 91 #[.int .i64 a, .int .i64 b] w fun e w'=> e= .returned (.int .i64 (min a b))∧Below w.heap.size w w':=by
 go_enter func91,ntmps91
 go_wp2_with fail
 refine (Fm a b (w.heap.size+1) _ _ ⟨by simp,_,_,rfl,by simp,by simp [maxLen],fun _=> ⟨w.heap.size,0,rfl,by omega,fun j u hu=> ?_⟩⟩).mono ?_
 ·match j,hu with
  |0,hu=> simp at hu;subst hu;simp [go_sem]
 ·rintro e w2 ⟨rfl,rfl⟩
  go_wp2
  go_ret
  exact ⟨rfl,(by repeat (first|exact Fv _ _|assumption|refine Below.alloc ?_ (by first|omega|(simp <;> omega)) _|refine Below.setCell ?_ (by first|omega|(simp <;> omega)) _|refine Below.drew ?_|refine Yn ?_ _))⟩
end Go.Proofs.YteldgdelmaeokaaGreatDoor
