/- The walks of childRule, validValue and impl.IsValidValue. Conditions: the description and the value read as their data, which are small. -/
import Derived.Test.YteldgdelmaeokaaGreatDoorGi
import Derived.WalkSpells
import Derived.WalkLawsBesides
import Derived.Deep.RegionHeld3
set_option linter.unusedSimpArgs false
set_option linter.unusedVariables false
set_option maxHeartbeats 4000000
set_option maxRecDepth 100000
namespace Go.Proofs.YteldgdelmaeokaaGreatDoor
open Go.Proofs.Tryz Go.RowKit
theorem Oe (vD:Value) (l:List RM) (k:Nat) (n:Int) (g o i:Nat) (B:Nat) (w:World) (h:Qz w B vD l) (hB:B≤w.heap.size) (sm:∀r∈l,r.d.small 1048576) (hkl:k < l.length) (hk:Zp (l.map RM.d) l[k].d=true)
  (hp:w.cell? ⟨g,o,none⟩=some (.int .i64 n)) (hi:i≤4194304):
  Calls prog 75 #[.agg #[vD], .int .i64 k, .pointer (some ⟨g,o,none⟩), .int .i64 i] w fun e w'=> e= .returned (.int .i64 (Qk l[k].d n i))∧Below w.heap.size w w':=by
 obtain ⟨A,c,eA,hc,hm, -⟩:=h.open_
 subst eA
 obtain ⟨b,off,A1,c1,A2,c2,A3,c3,A4,c4,rfl,hbB,e1,e2,e3,e4,m1,m2,m3,m4,hcell⟩:=Zw h k hkl
 unfold maxLen at hm
 obtain ⟨At,ct,et,hct,hmt,htc⟩:=(h.2 _ (Fw hkl)).t.one
 obtain ⟨Ak,ck,ek,hck,hmk,hkc⟩:=(h.2 _ (Fw hkl)).k.one
 rw [e3] at et
 rw [e4] at ek
 simp only [Value.slice.injEq] at et ek
 obtain ⟨rfl, -,rfl⟩:=et
 obtain ⟨rfl, -,rfl⟩:=ek
 have s3:=(sm _ (Fw hkl)).tags
 have s4:=(sm _ (Fw hkl)).kids
 obtain ⟨W0,hW0⟩:∃W0,W0=w.alloc (.cells #[.slice (some ⟨b,off,none⟩) l.length c] 26):=⟨_,rfl⟩
 have hbW:Below w.heap.size w W0:=by rw [hW0];exact (Fv w.heap.size w).alloc (Fu _) _
 obtain ⟨-,r1, -, -, -, -,r6,r7⟩:=hcell W0 (Zu hbW hB)
 have v0:=Ec hbW hp
 have hkd:∀j (hj:j < l[k].d.kids.length),∃b off,A4=some ⟨b,off,none⟩∧W0.cell? ⟨b,off+j,none⟩=some (.int .i64 (Xt l[k].d j)):=fun j hj=> by
  obtain ⟨b,off,e,hbB,hc0⟩:=hkc j hj
  exact ⟨b,off,e,by rw [Jb _ j hj];exact Zc hc0 (hbW.mono hB) hbB⟩
 have htd:∀j (hj:j < l[k].d.tags.length),∃b off,A3=some ⟨b,off,none⟩∧W0.cell? ⟨b,off+j,none⟩=some (.int .i64 l[k].d.tags[j]):=fun j hj=> by
  obtain ⟨b,off,e,hbB,hc0⟩:=htc j hj
  exact ⟨b,off,e,Zc hc0 (hbW.mono hB) hbB⟩
 clear e1 e2 e3 e4 m1 m2 m3 m4 hcell hp hkc htc hct hmt hck hmk sm h
 generalize l[k]=r at*
 generalize r.d=d at*
 obtain ⟨kd,hkd0⟩:∃kd,kd=d.kind:=⟨_,rfl⟩
 have HKD:=Fs hkd0
 clear hkd0
 by_cases q5:d.kind=5
 ·have HX:=Fs (Fk (n:=n) (i:=i) q5)
  have hl:=Ir hk q5
  have hl1:1 < d.kids.length:=by omega
  obtain ⟨bk,fk,rfl,hc1⟩:=hkd 1 (by omega)
  rw [q5] at r1
  generalize Xt d 1=kv at*
  have HL:=Fs hl
  clear hkd htd q5 hl hk
  have R:=Ft r1 (Ft r7 v0)
  rw [hW0] at R
  obtain ⟨w1',w7',z0'⟩:=R
  rw [hW0] at hc1
  clear r1 r6 r7 v0
  go_enter func75,ntmps75
  go_wp2
  go_ret
  exact ⟨Qe HX.out.symm,by first|exact hbW|(rw [←hW0];exact hbW)⟩
 have f5:(d.kind==5)=false:=beq_eq_false_iff_ne.2 q5
 by_cases q6:d.kind=6
 ·by_cases hik:i < d.kids.length
  ·have HX:=Fs ((Fj (n:=n) q6 hik).trans (Jb d i hik).symm)
   obtain ⟨bk,fk,rfl,hc1⟩:=hkd i hik
   rw [q6] at r1
   generalize Xt d i=kv at*
   clear hkd htd q5 q6 f5 hk
   have R:=Ft r1 (Ft r7 v0)
   rw [hW0] at R
   obtain ⟨w1',w7',z0'⟩:=R
   rw [hW0] at hc1
   clear r1 r6 r7 v0
   go_enter func75,ntmps75
   go_wp2
   go_ret
   exact ⟨Qe HX.out.symm,by first|exact hbW|(rw [←hW0];exact hbW)⟩
  ·have HX:=Fs (itemR_6' (n:=n) q6 hik)
   have hge:d.kids.length≤i:=by omega
   rw [q6] at r1
   clear hkd htd q5 q6 f5 hk hik
   have R:=Ft r1 (Ft r7 v0)
   rw [hW0] at R
   obtain ⟨w1',w7',z0'⟩:=R
   clear r1 r6 r7 v0
   go_enter func75,ntmps75
   go_wp2
   go_ret
   exact ⟨Qe HX.out.symm,by first|exact hbW|(rw [←hW0];exact hbW)⟩
 have f6:(d.kind==6)=false:=beq_eq_false_iff_ne.2 q6
 by_cases q7:d.kind=7
 ·have hl:=Lh hk q7
  have H7:=Fs q7
  rw [q7] at r1
  have HH:=Fs (Ft hkd htd)
  have HL:=Fs hl
  have R:=Ft r1 (Ft r6 (Ft r7 v0))
  rw [hW0] at R
  obtain ⟨w1',w6',w7',z0'⟩:=R
  clear hkd htd q5 q6 q7 f5 f6 hk hl
  go_enter func75,ntmps75
  go_wp2
  rw [←hW0]
  clear hW0 w1' w6' w7' z0'
  go_loop [51] (fun t=> ∃j:Nat,j≤d.tags.length∧t= .int .i64 j∧Hid (∀q (hq:q < j) (hl:q < d.tags.length),d.tags[q]≠n)) (fun t=> d.tags.length - (intOf t).toNat)
  case atStart=> exact ⟨0,Eb _,rfl,Fs (fun q hq=> by omega)⟩
  case round=>
   obtain ⟨j,hj,rfl,HN⟩:=hrel
   by_cases hlt:j < d.tags.length
   ·obtain ⟨bt,ft,rfl,hc1⟩:=HH.out.2 j hlt
    by_cases hn:d.tags[j]=n
    ·have HX:=Fs (Kj (i:=i) H7.out (Kw hlt hn fun q hq=> HN.out q hq (by omega)))
     obtain ⟨b2,off2,rfl,hc2⟩:=HH.out.1 (j+1) (by have:=HL.out;omega)
     have hlk:j+1 < d.kids.length:=by have:=HL.out;omega
     generalize Xt d (j+1)=kv at*
     have fe:(d.tags[j]==n)=true:=by rw [hn];simp
     clear hn
     go_wp2
     go_ret
     exact ⟨Qe HX.out.symm,hbW⟩
    ·have fe:(d.tags[j]==n)=false:=beq_eq_false_iff_ne.2 hn
     have HM:=Fs (show ∀q (hq:q < j+1) (hl:q < d.tags.length),d.tags[q]≠n from fun q hq hl=> by
      by_cases e:q=j
      ·subst e;exact hn
      ·exact HN.out q (by omega) hl)
     clear hn
     go_wp2
     go_round
     case rel=> exact ⟨j+1,by omega,by go_num,HM⟩
     case measure=> simp [intOf];omega
   ·have HX:=Fs (Pf (i:=i) H7.out (tagAt_no (n:=n) fun q hq=> HN.out q (by omega) hq))
    go_wp2
    go_ret
    exact ⟨Qe HX.out.symm,hbW⟩
 have f7:(d.kind==7)=false:=beq_eq_false_iff_ne.2 q7
 by_cases q8:d.kind=8
 ·have HX:=Fs (Pt (n:=n) (i:=i) (.inl q8))
  have hl:=Lg hk (.inl q8)
  have hl1:0 < d.kids.length:=by omega
  obtain ⟨bk,fk,rfl,hc1⟩:=hkd 0 (by omega)
  rw [Nat.add_zero] at hc1
  rw [q8] at r1
  generalize Xt d 0=kv at*
  have HL:=Fs hl
  clear hkd htd q5 q6 q7 f5 f6 f7 hl hk q8
  have R:=Ft r1 (Ft r7 v0)
  rw [hW0] at R
  obtain ⟨w1',w7',z0'⟩:=R
  rw [hW0] at hc1
  clear r1 r6 r7 v0
  go_enter func75,ntmps75
  go_wp2
  go_ret
  exact ⟨Qe HX.out.symm,by first|exact hbW|(rw [←hW0];exact hbW)⟩
 by_cases q9:d.kind=9
 ·have HX:=Fs (Pt (n:=n) (i:=i) (.inr q9))
  have hl:=Lg hk (.inr q9)
  have hl1:0 < d.kids.length:=by omega
  obtain ⟨bk,fk,rfl,hc1⟩:=hkd 0 (by omega)
  rw [Nat.add_zero] at hc1
  rw [q9] at r1
  generalize Xt d 0=kv at*
  have HL:=Fs hl
  clear hkd htd q5 q6 q7 f5 f6 f7 hl hk q8 q9
  have R:=Ft r1 (Ft r7 v0)
  rw [hW0] at R
  obtain ⟨w1',w7',z0'⟩:=R
  rw [hW0] at hc1
  clear r1 r6 r7 v0
  go_enter func75,ntmps75
  go_wp2
  go_ret
  exact ⟨Qe HX.out.symm,by first|exact hbW|(rw [←hW0];exact hbW)⟩
 ·have HX:=Fs (itemR_no (n:=n) (i:=i) q5 q6 q7 q8 q9)
  have f8:(d.kind==8)=false:=beq_eq_false_iff_ne.2 q8
  have f9:(d.kind==9)=false:=beq_eq_false_iff_ne.2 q9
  clear hkd htd q5 q6 q7 q8 q9 hk
  have R:=Ft r1 (Ft r7 v0)
  rw [hW0] at R
  obtain ⟨w1',w7',z0'⟩:=R
  clear r1 r6 r7 v0
  go_enter func75,ntmps75
  go_wp2
  go_ret
  exact ⟨Qe HX.out.symm,by first|exact hbW|(rw [←hW0];exact hbW)⟩
def VdI (x:VM):Prop:=∀(vD:Value) (l:List RM) (k g o B:Nat) (w:World),Qz w B vD l→B≤w.heap.size→(∀r∈l,r.d.ok)→(∀r∈l,r.d.small 1048576)→Yf (l.map RM.d)=true→k < l.length→x.rd w B→x.d.size≤4194304→
 w.cell? ⟨g,o,none⟩=some (.int .i64 x.n)→w.cell? ⟨g,o+1,none⟩=some x.vb→w.cell? ⟨g,o+2,none⟩=some x.vi→
 Calls prog 61 #[.agg #[vD], .int .i64 k, .pointer (some ⟨g,o,none⟩)] w fun e w'=> e= .returned (.bool (Zn (l.map RM.d) k x.d))∧Below w.heap.size w w'
theorem Ks (x:VM):VdI x:=by
 induction x using VM.induct with
 |h xn xb xvb xvi L ih=>
 intro vD l k g o B w h hB ok sm hv hkl hx hs hp0 hp1 hp2
 rw [VM.d_mk,Zv.size_mk] at hs
 have hll:=Zv.length_le (L.map VM.d)
 rw [List.length_map] at hll
 have hsm:∀y∈L,y.d.size≤4194304:=fun y hy=> by have:=Zv.size_le_of_mem (List.mem_map_of_mem (f:=VM.d) hy);omega
 have hlm:(l.map RM.d).length=l.length:=List.length_map ..
 have hok:=Ui hv (k:=k) (by rw [hlm];exact hkl)
 rw [List.getElem_map] at hok
 have hkR:=Yc hok
 have hVV:=Mx (D:=l.map RM.d) (k:=k) (by rw [hlm];exact hkl) (Zv.mk xn xb (L.map VM.d))
 rw [List.getElem_map,Zv.n_mk,Zv.b_mk,Zv.items_mk,show (L.map VM.d).length=L.length from List.length_map ..] at hVV
 rw [VM.d_mk]
 obtain ⟨Ax,cx,ex, -⟩:=hx.bytes.open_
 obtain ⟨Ay,cy,ey,hcy,hmy,hic⟩:=hx.its.open_
 simp only [VM.n_mk,VM.vb_mk,VM.b_mk,VM.vi_mk,VM.items_mk] at ex ey hic hcy hp0 hp1 hp2
 subst ex ey
 have hFIT:∀W,Below w.heap.size w W→Calls prog 78 #[.agg #[vD], .int .i64 k, .pointer (some ⟨g,o,none⟩)] W fun e w'=> e= .returned (.bool (Jr (l.map RM.d) l[k].d xn xb.length L.length))∧Below W.heap.size W w':=fun W hb=>
  fits_any vD l k xn xb.length L.length Ax Ay cx cy g o B W (h.below (hb.mono hB)) (by have:=hb.size;omega) ok sm hkl hkR (Ec hb hp0) (Ec hb hp1) (Ec hb hp2) (by omega) (by omega)
 have hITM:∀W (j:Nat),j≤4194304→Below w.heap.size w W→Calls prog 75 #[.agg #[vD], .int .i64 k, .pointer (some ⟨g,o,none⟩), .int .i64 j] W fun e w'=> e= .returned (.int .i64 (Qk l[k].d xn j))∧Below W.heap.size W w':=fun W j hj hb=>
  Oe vD l k xn g o j B W (h.below (hb.mono hB)) (by have:=hb.size;omega) sm hkl hkR (Ec hb hp0) hj
 have hREC:∀(y:VM),y∈L→∀(q g o:Nat),q < l.length→∀W,Below w.heap.size w W→W.cell? ⟨g,o,none⟩=some (.int .i64 y.n)→W.cell? ⟨g,o+1,none⟩=some y.vb→W.cell? ⟨g,o+2,none⟩=some y.vi→Calls prog 61 #[.agg #[vD], .int .i64 q, .pointer (some ⟨g,o,none⟩)] W fun e w'=> e= .returned (.bool (Zn (l.map RM.d) q y.d))∧Below W.heap.size W w':=fun y hy q g o hq W hb a1 a2 a3=>
  ih y hy vD l q g o B W (h.below (hb.mono hB)) (by have:=hb.size;omega) ok sm hv hq ((hx.its.2 y hy).bel (hb.mono hB)) (hsm y hy) a1 a2 a3
 obtain ⟨A,c,eA,hc,hm, -⟩:=h.open_
 subst eA
 unfold maxLen at hm
 have HFIT:=Fs hFIT
 have HITM:=Fs hITM
 have HREC:=Fs hREC
 have HIC:=Fs hic
 have HVV:=Fs hVV
 have HOK:=Fs hok
 clear hFIT hITM hREC hic hVV hok hkR hx h ih hsm ok sm hv
 have HMAP:=Fs (show ∀j (hj:j < L.length),(L.map VM.d)[j]'(by rw [List.length_map];exact hj)=L[j].d from fun j hj=> by rw [List.getElem_map])
 generalize l[k]=r at*
 generalize r.d=d at*
 clear hlm
 obtain ⟨W0,hW0⟩:∃W0,W0=w.alloc (.cells #[.slice A l.length c] 26):=⟨_,rfl⟩
 have hb0:Below w.heap.size w W0:=by rw [hW0];exact (Fv w.heap.size w).alloc (Fu _) _
 have hz:w.heap.size+1≤W0.heap.size:=by rw [hW0];simp
 have y0:W0.cell? ⟨w.heap.size,0,none⟩=some (.slice A l.length c):=by rw [hW0];simp [go_sem]
 cases hfit:Jr (l.map RM.d) d xn xb.length L.length
 ·have hown:Qh (l.map RM.d) d xn xb.length L.length=false:=by
   cases e:Qh (l.map RM.d) d xn xb.length L.length
   ·rfl
   ·rw [fit_of_own HOK.out e] at hfit;cases hfit
  have HX:=Fs (HVV.out.trans (show (Qh (l.map RM.d) d xn xb.length L.length && Yb (l.map RM.d) d xn 0 (L.map VM.d))=false by simp [hown]))
  rw [hfit] at HFIT
  clear hfit hown
  go_enter func61,ntmps61
  go_wp2_with fail
  rw [←hW0]
  clear hW0
  refine (HFIT.out _ hb0).mono ?_
  rintro e w1 ⟨rfl,bel⟩
  have b1:=Zb bel hb0
  clear bel
  go_wp2
  go_ret
  exact ⟨Zd HX.out.symm,b1⟩
 ·-- whether the item's rule is there
  have hOI:∀j (hj:j < L.length),(∃q:Nat,Qk d xn j=q∧q < k)∨(Qk d xn j= -1∧Qh (l.map RM.d) d xn xb.length L.length=false):=fun j hj=> by
   cases e:Qh (l.map RM.d) d xn xb.length L.length
   ·by_cases q:d.kind=7
    ·right
     refine ⟨?_,rfl⟩
     rw [fit_7 q] at hfit
     rw [own_7 q] at e
     simp only [Bool.and_eq_true,decide_eq_true_eq] at hfit
     have hj0:j=0:=by omega
     subst hj0
     rw [Fy hfit.2.1,Fy hfit.2.2] at e
     simp at e
     rcases Ow d xn with e2|⟨t,ht,e2, -⟩
     ·exact Pf q e2
     ·rw [Kj q e2,Jb d (t+1) (by rw [Lh (Yc HOK.out) q];omega)] at e
      obtain ⟨z,hz, -⟩:=Pd HOK.out (j:=t+1) (by rw [Lh (Yc HOK.out) q];omega)
      rw [hz] at e
      omega
    ·rw [Tc q,e] at hfit;cases hfit
   ·exact .inl (Ik HOK.out e hj)
  have hend:(∀j (hj:j < L.length),Zn (l.map RM.d) (Qk d xn j) L[j].d=true)→Zn (l.map RM.d) k (Zv.mk xn xb (L.map VM.d))=true:=fun hall=> by
   rw [HVV.out]
   have h2:Yb (l.map RM.d) d xn 0 (L.map VM.d)=true:=Ra fun q hq=> by rw [List.length_map] at hq;rw [HMAP.out q hq];exact hall q hq
   cases e:Qh (l.map RM.d) d xn xb.length L.length
   ·by_cases q:d.kind=7
    ·rw [fit_7 q] at hfit
     simp only [Bool.and_eq_true,decide_eq_true_eq] at hfit
     rcases hOI 0 (by omega) with ⟨z,hz, -⟩|⟨hz, -⟩
     ·rw [own_7 q,Fy hfit.2.1,Fy hfit.2.2] at e
      simp at e
      omega
     ·have:=hall 0 (by omega)
      rw [show Qk d xn (0:Nat)= -1 from hz,Vq,Vr (.inl (by omega))] at this
      cases this
    ·rw [Tc q,e] at hfit;cases hfit
   ·rw [h2];rfl
  have hbad:∀j (hj:j < L.length),Zn (l.map RM.d) (Qk d xn j) L[j].d=false→Zn (l.map RM.d) k (Zv.mk xn xb (L.map VM.d))=false:=fun j hj hf=> by
   rw [HVV.out,Ln (j:=j) (by rw [List.length_map];exact hj) (by rw [HMAP.out j hj];exact hf),Bool.and_false]
  have HOI:=Fs (Ft hOI (Ft hend hbad))
  rw [hfit] at HFIT
  clear hfit hOI hend hbad
  go_enter func61,ntmps61
  go_wp2_with fail
  rw [←hW0]
  clear hW0
  refine (HFIT.out _ hb0).mono ?_
  rintro e w1 ⟨rfl,bel⟩
  have b1:=Zb bel hb0
  have z1:w.heap.size+1≤w1.heap.size:=by have:=bel.size;omega
  have y1:=Ec bel y0
  have P2:=Ec b1 hp2
  clear bel y0
  go_wp2
  go_loopw [19] (fun i wr=> ∃j:Nat,j≤L.length∧i= .int .i64 j∧Below w1.heap.size w1 wr∧Hid (∀q (hq:q < j) (hl:q < L.length),Zn (l.map RM.d) (Qk d xn q) L[q].d=true)) (fun i _=> L.length - (intOf i).toNat)
  case atStart=> exact ⟨0,Eb _,rfl,Fv _ _,Fs (fun q hq=> by omega)⟩
  case round=>
   clear P2
   obtain ⟨j,hj,rfl,hb,HN⟩:=hrel
   have hbw:=b1.trans (hb.mono (by omega))
   have s0:=Zc y1 hb (by omega)
   have s2:=Ec hbw hp2
   by_cases hlt:j < L.length
   ·obtain ⟨bi,fi,rfl,hbi,e0,e1,e2⟩:=HIC.out j hlt
    have HI:=Fs (fun W hb=> HITM.out W j (by omega) hb)
    rcases HOI.out.1 j hlt with ⟨q,hq,hqk⟩|⟨hq,hown⟩
    ·have hql:q < l.length:=by omega
     have HQ:=Fs hq
     rw [hq] at HI
     have e0w:=Zc e0 (hbw.mono hB) hbi
     have e1w:=Zc e1 (hbw.mono hB) hbi
     have e2w:=Zc e2 (hbw.mono hB) hbi
     have f2:decide ((q:Int) < 0)=false:=by simp
     clear hq hqk
     cases hval:Zn (l.map RM.d) q L[j].d
     ·have HY:=Fs (HOI.out.2.2 j hlt (by rw [HQ.out];exact hval))
      have HR:=Fs (HREC.out L[j] (Fw hlt) q bi (fi+j*3) hql)
      rw [hval] at HR
      clear hval
      go_wp2_with fail
      refine (HI.out _ hbw).mono ?_
      rintro e w7 ⟨rfl,bel7⟩
      have bw:=Zb bel7 hbw
      have s0:=Ec bel7 s0
      have s2:=Ec bel7 s2
      have i0:=Ec bel7 e0w
      have i1:=Ec bel7 e1w
      have i2:=Ec bel7 e2w
      clear bel7 e0 e1 e2 e0w e1w e2w
      go_wp2_with fail
      refine wp_region_held_drew (S:=(fun w9=> w9.cell? ⟨w.heap.size,0,none⟩=some (.slice A l.length c)∧w9.cell? ⟨g,o+2,none⟩=some (.slice (some ⟨bi,fi,none⟩) L.length cy))) (by kernel_rfl) ?_ (fun hHeld=> ?_)
      ·(try dsimp only);exact ⟨s0,s2⟩
      refine Za 0 (some 27) hHeld _ ?_;try go_frame
      refine Za 1 (some 28) hHeld _ ?_;try go_frame
      refine Za 2 (some 29) hHeld _ ?_;try go_frame
      refine Za 3 (some 30) hHeld _ ?_;try go_frame
      refine Za 4 (some 31) hHeld _ ?_;try go_frame
      refine Za 5 (some 32) hHeld _ ?_;try go_frame
      refine Za 6 (some 33) hHeld _ ?_;try go_frame
      refine Za 7 (some 34) hHeld _ ?_;try go_frame
      refine Za 8 (some 35) hHeld _ ?_;try go_frame
      refine Za 9 (some 36) hHeld _ ?_;try go_frame
      refine Za 10 (some 37) hHeld _ ?_;try go_frame
      refine Zh 11 (fun K hK=> ?_)
      go_simp
      refine (HR.out _ bw.drew i0 i1 i2).mono ?_;rintro e w8 ⟨rfl,bel8⟩
      (try go_wp2_with fail)
      refine hK.out _ _ ?_ (fun hHeld=> ?_)
      ·(try dsimp only);exact ⟨Ec bel8 s0,Ec bel8 s2⟩
      clear hK K
      try go_frame
      refine Za 12 (some 39) hHeld _ ?_;try go_frame
      refine Za 13 (some 40) hHeld _ ?_;try go_frame
      refine wpAnyH_done (by kernel_rfl) ?_ _
      have HB:=Fs (Zb bel8 bw.drew)
      clear bel8 bw i0 i1 i2
      go_wp2
      go_ret
      exact ⟨Zd HY.out.symm,HB.out⟩
     ·have HM:=Fs (show ∀q (hq:q < j+1) (hl:q < L.length),Zn (l.map RM.d) (Qk d xn q) L[q].d=true from fun q' hq' hl'=> by
       by_cases e:q'=j
       ·subst e;rw [HQ.out];exact hval
       ·exact HN.out q' (by omega) hl')
      have HR:=Fs (HREC.out L[j] (Fw hlt) q bi (fi+j*3) hql)
      rw [hval] at HR
      clear hval
      go_wp2_with fail
      refine (HI.out _ hbw).mono ?_
      rintro e w7 ⟨rfl,bel7⟩
      have bw:=Zb bel7 hbw
      have bq:=bel7
      have s0:=Ec bel7 s0
      have s2:=Ec bel7 s2
      have i0:=Ec bel7 e0w
      have i1:=Ec bel7 e1w
      have i2:=Ec bel7 e2w
      clear bel7 e0 e1 e2 e0w e1w e2w
      go_wp2_with fail
      refine wp_region_held_drew (S:=(fun w9=> w9.cell? ⟨w.heap.size,0,none⟩=some (.slice A l.length c)∧w9.cell? ⟨g,o+2,none⟩=some (.slice (some ⟨bi,fi,none⟩) L.length cy))) (by kernel_rfl) ?_ (fun hHeld=> ?_)
      ·(try dsimp only);exact ⟨s0,s2⟩
      refine Za 0 (some 27) hHeld _ ?_;try go_frame
      refine Za 1 (some 28) hHeld _ ?_;try go_frame
      refine Za 2 (some 29) hHeld _ ?_;try go_frame
      refine Za 3 (some 30) hHeld _ ?_;try go_frame
      refine Za 4 (some 31) hHeld _ ?_;try go_frame
      refine Za 5 (some 32) hHeld _ ?_;try go_frame
      refine Za 6 (some 33) hHeld _ ?_;try go_frame
      refine Za 7 (some 34) hHeld _ ?_;try go_frame
      refine Za 8 (some 35) hHeld _ ?_;try go_frame
      refine Za 9 (some 36) hHeld _ ?_;try go_frame
      refine Za 10 (some 37) hHeld _ ?_;try go_frame
      refine Zh 11 (fun K hK=> ?_)
      go_simp
      refine (HR.out _ bw.drew i0 i1 i2).mono ?_;rintro e w8 ⟨rfl,bel8⟩
      (try go_wp2_with fail)
      refine hK.out _ _ ?_ (fun hHeld=> ?_)
      ·(try dsimp only);exact ⟨Ec bel8 s0,Ec bel8 s2⟩
      clear hK K
      try go_frame
      refine Za 12 (some 39) hHeld _ ?_;try go_frame
      refine Za 13 (some 40) hHeld _ ?_;try go_frame
      refine wpAnyH_done (by kernel_rfl) ?_ _
      have HB:=Fs (hb.trans ((Zb bel8 bq.drew).mono hb.size))
      clear bel8 bw bq i0 i1 i2
      go_wp2
      go_roundw
      case rel=> exact ⟨j+1,by omega,by go_num,HB.out,HM⟩
      case measure=> simp [intOf];omega
    ·have HY:=Fs (HVV.out.trans (show (Qh (l.map RM.d) d xn xb.length L.length && Yb (l.map RM.d) d xn 0 (L.map VM.d))=false by simp [hown]))
     rw [hq] at HI
     clear hq hown e0 e1 e2
     go_wp2_with fail
     refine (HI.out _ hbw).mono ?_
     rintro e w7 ⟨rfl,bel7⟩
     have bw:=Zb bel7 hbw
     have s0:=Ec bel7 s0
     have s2:=Ec bel7 s2
     clear bel7
     go_wp2_with fail
     refine wp_region_held_drew (S:=(fun w9=> w9.cell? ⟨w.heap.size,0,none⟩=some (.slice A l.length c)∧w9.cell? ⟨g,o+2,none⟩=some (.slice (some ⟨bi,fi,none⟩) L.length cy))) (by kernel_rfl) ?_ (fun hHeld=> ?_)
     ·(try dsimp only);exact ⟨s0,s2⟩
     refine Za 0 (some 27) hHeld _ ?_;try go_frame
     refine Za 1 (some 28) hHeld _ ?_;try go_frame
     refine Za 2 (some 29) hHeld _ ?_;try go_frame
     refine Zl 3 (some 30) hHeld ?_;try go_frame
     refine Zl 4 (some 31) hHeld ?_;try go_frame
     refine Zl 5 (some 32) hHeld ?_;try go_frame
     refine Zl 6 (some 33) hHeld ?_;try go_frame
     refine Zl 7 (some 34) hHeld ?_;try go_frame
     refine Zl 8 (some 35) hHeld ?_;try go_frame
     refine Zl 9 (some 36) hHeld ?_;try go_frame
     refine Zl 10 (some 37) hHeld ?_;try go_frame
     refine Zl 11 (some 38) hHeld ?_;try go_frame
     refine Zl 12 (some 39) hHeld ?_;try go_frame
     refine Za 13 (some 40) hHeld _ ?_;try go_frame
     refine wpAnyH_done (by kernel_rfl) ?_ _
     go_wp2
     go_ret
     exact ⟨Zd HY.out.symm,bw.drew⟩
   ·have HY:=Fs (HOI.out.2.1 fun q hq=> HN.out q (by omega) hq)
    have HB:=Fs hbw
    clear hbw hb
    go_wp2
    go_ret
    exact ⟨Zd HY.out.symm,HB.out⟩
theorem On (vD:Value) (l:List RM) (i:Int) (x:VM) (B:Nat) (w:World) (h:Qz w B vD l) (hB:B≤w.heap.size) (ok:∀r∈l,r.d.ok) (sm:∀r∈l,r.d.small 1048576) (hx:x.rd w B) (hs:x.d.size≤4194304):
  Calls prog 28 #[.agg #[vD], .int .i64 i,Qs x] w fun e w'=> e= .returned (.bool (Qd (l.map RM.d) i && Zn (l.map RM.d) i x.d))∧Below w.heap.size w w':=by
 have hK:∀W,Below w.heap.size w W→Calls prog 60 #[.agg #[vD], .int .i64 i] W fun e w'=> e= .returned (.bool (Qd (l.map RM.d) i))∧Below W.heap.size W w':=fun W hb=>
  Rl vD l i B W (h.below (hb.mono hB)) (by have:=hb.size;omega) ok sm
 have hV:Qd (l.map RM.d) i=true→∀W g,Below w.heap.size w W→W.cell? ⟨g,0,none⟩=some (.int .i64 x.n)→W.cell? ⟨g,0+1,none⟩=some x.vb→W.cell? ⟨g,0+2,none⟩=some x.vi→Calls prog 61 #[.agg #[vD], .int .i64 i, .pointer (some ⟨g,0,none⟩)] W fun e w'=> e= .returned (.bool (Zn (l.map RM.d) i x.d))∧Below W.heap.size W w':=fun hk W g hb a1 a2 a3=> by
  obtain ⟨h0,h1⟩:=Vt hk
  rw [List.length_map] at h1
  obtain ⟨k,rfl⟩:=Int.eq_ofNat_of_zero_le h0
  exact Ks x vD l k g 0 B W (h.below (hb.mono hB)) (by have:=hb.size;omega) ok sm (Ua hk) (by omega) (hx.bel (hb.mono hB)) hs a1 a2 a3
 obtain ⟨A,c,rfl,hc,hm, -⟩:=h.open_
 obtain ⟨xn,xb,xvb,xvi,L⟩:=x
 obtain ⟨Ax,cx,ex, -⟩:=hx.bytes.open_
 obtain ⟨Ay,cy,ey, -⟩:=hx.its.open_
 simp only [VM.vb_mk,VM.b_mk,VM.vi_mk,VM.items_mk] at ex ey
 subst ex ey
 unfold Qs
 simp only [VM.n_mk,VM.vb_mk,VM.vi_mk] at hV ⊢
 obtain ⟨W0,hW0⟩:∃W0,W0=((w.alloc (.cells #[.slice A l.length c] 26)).alloc (.cells #[.int .i64 xn, .slice Ax xb.length cx, .slice Ay L.length cy] 29)):=⟨_,rfl⟩
 have hb0:Below w.heap.size w W0:=by rw [hW0];exact ((Fv w.heap.size w).alloc (Fu _) _).alloc (by simp) _
 have y0:W0.cell? ⟨w.heap.size,0,none⟩=some (.slice A l.length c):=by rw [hW0];simp [go_sem]
 have v0:W0.cell? ⟨w.heap.size+1,0,none⟩=some (.int .i64 xn):=by rw [hW0];simp [go_sem]
 have v1:W0.cell? ⟨w.heap.size+1,1,none⟩=some (.slice Ax xb.length cx):=by rw [hW0];simp [go_sem]
 have v2:W0.cell? ⟨w.heap.size+1,2,none⟩=some (.slice Ay L.length cy):=by rw [hW0];simp [go_sem]
 cases hk:Qd (l.map RM.d) i
 ·rw [hk] at hK
  have HK:=Fs hK
  clear hK hV hk hx h
  go_enter func28,ntmps28
  go_wp2_with fail
  rw [←hW0]
  clear hW0
  refine (HK.out _ hb0).mono ?_
  rintro e w1 ⟨rfl,bel⟩
  have b1:=Zb bel hb0
  clear bel
  go_wp2
  go_ret
  exact ⟨rfl,b1⟩
 ·rw [hk] at hK
  have HK:=Fs hK
  have HV:=Fs (hV hk)
  clear hK hV hk hx h
  generalize Zn (l.map RM.d) i (VM.mk xn xb (.slice Ax xb.length cx) (.slice Ay L.length cy) L).d=vv at*
  go_enter func28,ntmps28
  go_wp2_with fail
  rw [←hW0]
  clear hW0
  refine (HK.out _ hb0).mono ?_
  rintro e w1 ⟨rfl,bel⟩
  have b1:=Zb bel hb0
  have y1:=Ec bel y0
  have q0:=Ec bel v0
  have q1:=Ec bel v1
  have q2:=Ec bel v2
  clear bel y0 v0 v1 v2
  go_wp2_with fail
  refine (HV.out _ _ b1 q0 q1 q2).mono ?_
  rintro e w2 ⟨rfl,bel⟩
  have b2:=Zb bel b1
  clear bel b1 y1 q0 q1 q2
  go_wp2
  go_ret
  exact ⟨rfl,b2⟩
end Go.Proofs.YteldgdelmaeokaaGreatDoor
