/- The walk of fitsRule, kind by kind: whether the fields of a value but for its items are those of a rule. Conditions: the description and the rule read as their data, which are those of a valid one; the value lies behind the pointer. -/
import Derived.Test.YteldgdelmaeokaaGreatDoorGh
import Derived.WalkSpells
import Derived.WalkLawsBesides
import Derived.Deep.RegionHeld3
set_option linter.unusedSimpArgs false
set_option linter.unusedVariables false
set_option maxHeartbeats 4000000
set_option maxRecDepth 100000
namespace Go.Proofs.YteldgdelmaeokaaGreatDoor
open Go.Proofs.Tryz Go.RowKit
def Jr (D:List Zi) (r:Zi) (n:Int) (nb ni:Nat):Bool:=
 if r.kind=7 then Xs n 0 (Zr D (Xt r 0)) && (decide (nb=0) && decide (ni=1)) else Qh D r n nb ni
theorem Tc {D:List Zi} {r:Zi} {n:Int} {nb ni:Nat} (h:r.kind≠7):Jr D r n nb ni=Qh D r n nb ni:=by unfold Jr;rw [if_neg h]
theorem fit_7 {D:List Zi} {r:Zi} {n:Int} {nb ni:Nat} (h:r.kind=7):Jr D r n nb ni=(Xs n 0 (Zr D (Xt r 0)) && (decide (nb=0) && decide (ni=1))):=by unfold Jr;rw [if_pos h]
theorem limit_1 {D:List Zi} {k:Nat} (hk:k < D.length) (q:D[k].kind=1) (h:Zp D D[k]=true):Zr D k=Tb D[k].size - 1:=by
 unfold Zr Jo
 rw [if_pos (by omega),Int.toNat_natCast,List.getElem?_eq_getElem hk]
 show Yh D[k]=_
 unfold Zp at h
 rw [if_pos q] at h
 simp only [Bool.and_eq_true] at h
 have:=Jv.1 h.2.1
 unfold Yh
 rw [if_pos ⟨q,this⟩]
theorem fit_of_own {D:List Zi} {i:Nat} {r:Zi} {n:Int} {nb ni:Nat} (h:Xi D i r=true) (ho:Qh D r n nb ni=true):Jr D r n nb ni=true:=by
 by_cases q:r.kind=7
 ·rw [fit_7 q]
  rw [own_7 q] at ho
  simp only [Bool.and_eq_true,decide_eq_true_eq] at ho ⊢
  obtain ⟨h1,h2,h3⟩:=ho
  refine ⟨?_,h1,h2⟩
  rcases Ow r n with e|⟨t,ht,e,hn⟩
  ·rw [Pf q e] at h3;omega
  ·have hk:=Yc h
   unfold Zp at hk
   rw [q] at hk
   simp only [show ¬((7:Int)=1) by decide,show ¬((7:Int)=2) by decide,show ¬((7:Int)=3) by decide,show ¬((7:Int)=4) by decide,show ¬((7:Int)=5) by decide,show ¬((7:Int)=6) by decide,if_false,if_true,Bool.and_eq_true] at hk
   have h2:=hk.2
   unfold Yu at h2
   simp only [Bool.and_eq_true] at h2
   have h4:=(Yw _ _).1 h2.2.2 t ht
   rw [←hn]
   cases t with
   |zero=> rw [Uj _ _ ht] at h4;exact h4
   |succ t=> rw [Uk _ _ _ ht,Bool.and_eq_true] at h4;exact h4.1
 ·rw [Tc q];exact ho
theorem Xb:Xs 0 0 0=true:=rfl
theorem Pg {n:Int} (h:n≠0):Xs n 0 0=false:=Jl (by omega)
theorem fits_1 (vD:Value) (l:List RM) (k:Nat) (xn:Int) (nb ni:Nat) (Ax Ay:Option Addr) (cx cy g o:Nat) (B:Nat) (w:World) (h:Qz w B vD l) (hB:B≤w.heap.size) (ok:∀r∈l,r.d.ok) (sm:∀r∈l,r.d.small 1048576) (hkl:k < l.length) (hk:Zp (l.map RM.d) l[k].d=true)
  (p0':w.cell? ⟨g,o,none⟩=some (.int .i64 xn)) (p1':w.cell? ⟨g,o+1,none⟩=some (.slice Ax nb cx)) (p2':w.cell? ⟨g,o+2,none⟩=some (.slice Ay ni cy)) (hbl:nb≤4194304) (hil:ni≤4194304) (q:l[k].d.kind=1):
  Calls prog 78 #[.agg #[vD], .int .i64 k, .pointer (some ⟨g,o,none⟩)] w fun e w'=> e= .returned (.bool (Jr (l.map RM.d) l[k].d xn nb ni))∧Below w.heap.size w w':=by
 have hLIM:∀W i,Below w.heap.size w W→Qa i→Calls prog 90 #[.agg #[vD], .int .i64 i] W fun e w'=> e= .returned (.int .i64 (Zr (l.map RM.d) i))∧Below W.heap.size W w':=fun W i hb hi=> Xc vD l i B W (h.below (hb.mono hB)) (by have:=hb.size;omega) hi ok
 have HLIM:=Fs hLIM
 clear hLIM
 have HO:=Fs ((Tc (D:=l.map RM.d) (n:=xn) (nb:=nb) (ni:=ni) (show l[k].d.kind≠7 by omega)).trans (own_1 q))
 have hl1:Zr (l.map RM.d) k=Tb l[k].d.size - 1:=by
  have:=limit_1 (D:=l.map RM.d) (k:=k) (by rw [List.length_map];exact hkl) (by rw [List.getElem_map];exact q) (by rw [List.getElem_map];exact hk)
  rw [List.getElem_map] at this
  exact this
 obtain ⟨lm,hlm⟩:∃lm,lm=Zr (l.map RM.d) k:=⟨_,rfl⟩
 rw [←hl1,←hlm] at HO
 have HLK:=Fs (fun W hb=> HLIM.out W k hb ⟨by omega,by have:=h.1.1;have:=h.open_;obtain ⟨A,c,_,h1,h2,_⟩:=this;unfold maxLen at h2;omega⟩)
 rw [←hlm] at HLK
 have HLM:=Fs hlm
 clear hlm hl1 HLIM
 obtain ⟨b,off,A1,c1,A2,c2,A3,c3,A4,c4,eA,hbB,e1,e2,e3,e4,m1,m2,m3,m4,hcell⟩:∃b off A1 c1 A2 c2 A3 c3 A4 c4,(∃A c,vD= .slice A l.length c∧A=some ⟨b,off,none⟩∧c≤maxLen∧l.length≤c)∧b < B∧l[k].vb= .slice A1 l[k].d.bytes.length c1∧l[k].vn= .slice A2 l[k].d.names.length c2∧l[k].vt= .slice A3 l[k].d.tags.length c3∧l[k].vk= .slice A4 l[k].d.kids.length c4∧
   l[k].d.bytes.length≤maxLen∧l[k].d.names.length≤maxLen∧l[k].d.tags.length≤maxLen∧l[k].d.kids.length≤maxLen∧(∀W:World,(∀b o,b < B→W.cell? ⟨b,o,none⟩=w.cell? ⟨b,o,none⟩)→W.cell? ⟨b,off+k*8,none⟩=some (.string l[k].d.name)∧W.cell? ⟨b,off+k*8+1,none⟩=some (.int .i64 l[k].d.kind)∧
   W.cell? ⟨b,off+k*8+2,none⟩=some (.int .i64 l[k].d.size)∧W.cell? ⟨b,off+k*8+3,none⟩=some (.bool l[k].d.little)∧W.cell? ⟨b,off+k*8+4,none⟩=some (.slice A1 l[k].d.bytes.length c1)∧
   W.cell? ⟨b,off+k*8+5,none⟩=some (.slice A2 l[k].d.names.length c2)∧W.cell? ⟨b,off+k*8+6,none⟩=some (.slice A3 l[k].d.tags.length c3)∧W.cell? ⟨b,off+k*8+7,none⟩=some (.slice A4 l[k].d.kids.length c4)):=by
  obtain ⟨A,c,rfl,h1,h2, -⟩:=h.open_
  obtain ⟨b,off,A1,c1,A2,c2,A3,c3,A4,c4,eA,r⟩:=Zw h k hkl
  exact ⟨b,off,A1,c1,A2,c2,A3,c3,A4,c4,⟨A,c,rfl,eA,h2,h1⟩,r⟩
 obtain ⟨A,c,rfl,rfl,hm,hc⟩:=eA
 unfold maxLen at hm
 obtain ⟨W0,hW0⟩:∃W0,W0=w.alloc (.cells #[.slice (some ⟨b,off,none⟩) l.length c] 26):=⟨_,rfl⟩
 have hbW:Below w.heap.size w W0:=by rw [hW0];exact (Fv w.heap.size w).alloc (Fu _) _
 have y0:W0.cell? ⟨w.heap.size,0,none⟩=some (.slice (some ⟨b,off,none⟩) l.length c):=by rw [hW0];simp [go_sem]
 obtain ⟨-,r1,r2, -, -, -, -,r7⟩:=hcell W0 (Zu hbW hB)
 have v0:=Ec hbW p0'
 have v1:=Ec hbW p1'
 have v2:=Ec hbW p2'
 rw [q] at r1
 clear h e1 e2 e3 e4 m1 m2 m3 m4 hcell p0' p1' p2' ok sm hk
 generalize l[k]=r at*
 generalize r.d=d at*
 have R:=Ft r1 (Ft r2 (Ft r7 (Ft v0 (Ft v1 v2))))
 rw [hW0] at R
 obtain ⟨w1',w2',w7',z0',z1',z2'⟩:=R
 by_cases p0:Xs xn 0 lm=true
 ·by_cases p1:nb=0
  ·subst p1
   by_cases p2:ni=0
   ·subst p2
    have HX:=Fs (show Jr (l.map RM.d) d xn 0 0=true by rw [HO.out];simp [p0])
    have HIN:=Fs p0
    clear p0
    go_enter func78,ntmps78
    go_wp2_with fail
    rw [←hW0]
    clear hW0
    refine (HLK.out _ hbW).mono ?_
    rintro e w1 ⟨rfl,bel⟩
    have hbW:=Zb bel hbW
    have r1:=Ec bel r1
    have v0:=Ec bel v0
    have v1:=Ec bel v1
    have v2:=Ec bel v2
    clear bel y0 r2 r7 w1' w2' w7' z0' z1' z2'
    go_wp2_with fail
    refine (Zm _ _ _ _).mono ?_
    rintro e w9 ⟨rfl,rfl⟩
    rw [HIN.out]
    go_wp2
    go_ret
    exact ⟨Zd HX.out.symm,by first|exact hbW|(rw [←hW0];exact hbW)⟩
   ·have HX:=Fs (show Jr (l.map RM.d) d xn 0 ni=false by rw [HO.out];simp [p0,p2])
    have f2:decide ((ni:Int)≤0)=false:=Fx (by omega)
    have g2:decide (ni=0)=false:=Fx p2
    have h2:(ni=0)=False:=eq_false p2
    have HIN:=Fs p0
    clear p0
    clear p2
    go_enter func78,ntmps78
    go_wp2_with fail
    rw [←hW0]
    clear hW0
    refine (HLK.out _ hbW).mono ?_
    rintro e w1 ⟨rfl,bel⟩
    have hbW:=Zb bel hbW
    have r1:=Ec bel r1
    have v0:=Ec bel v0
    have v1:=Ec bel v1
    have v2:=Ec bel v2
    clear bel y0 r2 r7 w1' w2' w7' z0' z1' z2'
    go_wp2_with fail
    refine (Zm _ _ _ _).mono ?_
    rintro e w9 ⟨rfl,rfl⟩
    rw [HIN.out]
    go_wp2
    go_ret
    exact ⟨Zd HX.out.symm,by first|exact hbW|(rw [←hW0];exact hbW)⟩
  ·have HX:=Fs (show Jr (l.map RM.d) d xn nb ni=false by rw [HO.out];simp [p0,p1])
   have f1:decide ((nb:Int)≤0)=false:=Fx (by omega)
   have g1:decide (nb=0)=false:=Fx p1
   have h1:(nb=0)=False:=eq_false p1
   have HIN:=Fs p0
   clear p0
   clear p1
   go_enter func78,ntmps78
   go_wp2_with fail
   rw [←hW0]
   clear hW0
   refine (HLK.out _ hbW).mono ?_
   rintro e w1 ⟨rfl,bel⟩
   have hbW:=Zb bel hbW
   have r1:=Ec bel r1
   have v0:=Ec bel v0
   have v1:=Ec bel v1
   have v2:=Ec bel v2
   clear bel y0 r2 r7 w1' w2' w7' z0' z1' z2'
   go_wp2_with fail
   refine (Zm _ _ _ _).mono ?_
   rintro e w9 ⟨rfl,rfl⟩
   rw [HIN.out]
   go_wp2
   go_ret
   exact ⟨Zd HX.out.symm,by first|exact hbW|(rw [←hW0];exact hbW)⟩
 ·have HX:=Fs (show Jr (l.map RM.d) d xn nb ni=false by rw [HO.out];simp [p0])
  have HIN:=Fs (Bool.eq_false_iff.2 p0)
  clear p0
  go_enter func78,ntmps78
  go_wp2_with fail
  rw [←hW0]
  clear hW0
  refine (HLK.out _ hbW).mono ?_
  rintro e w1 ⟨rfl,bel⟩
  have hbW:=Zb bel hbW
  have r1:=Ec bel r1
  have v0:=Ec bel v0
  have v1:=Ec bel v1
  have v2:=Ec bel v2
  clear bel y0 r2 r7 w1' w2' w7' z0' z1' z2'
  go_wp2_with fail
  refine (Zm _ _ _ _).mono ?_
  rintro e w9 ⟨rfl,rfl⟩
  rw [HIN.out]
  go_wp2
  go_ret
  exact ⟨Zd HX.out.symm,by first|exact hbW|(rw [←hW0];exact hbW)⟩
theorem fits_2 (vD:Value) (l:List RM) (k:Nat) (xn:Int) (nb ni:Nat) (Ax Ay:Option Addr) (cx cy g o:Nat) (B:Nat) (w:World) (h:Qz w B vD l) (hB:B≤w.heap.size) (ok:∀r∈l,r.d.ok) (sm:∀r∈l,r.d.small 1048576) (hkl:k < l.length) (hk:Zp (l.map RM.d) l[k].d=true)
  (p0':w.cell? ⟨g,o,none⟩=some (.int .i64 xn)) (p1':w.cell? ⟨g,o+1,none⟩=some (.slice Ax nb cx)) (p2':w.cell? ⟨g,o+2,none⟩=some (.slice Ay ni cy)) (hbl:nb≤4194304) (hil:ni≤4194304) (q:l[k].d.kind=2):
  Calls prog 78 #[.agg #[vD], .int .i64 k, .pointer (some ⟨g,o,none⟩)] w fun e w'=> e= .returned (.bool (Jr (l.map RM.d) l[k].d xn nb ni))∧Below w.heap.size w w':=by
 have HO:=Fs ((Tc (D:=l.map RM.d) (n:=xn) (nb:=nb) (ni:=ni) (show l[k].d.kind≠7 by omega)).trans (own_2 q))
 obtain ⟨b,off,A1,c1,A2,c2,A3,c3,A4,c4,eA,hbB,e1,e2,e3,e4,m1,m2,m3,m4,hcell⟩:∃b off A1 c1 A2 c2 A3 c3 A4 c4,(∃A c,vD= .slice A l.length c∧A=some ⟨b,off,none⟩∧c≤maxLen∧l.length≤c)∧b < B∧l[k].vb= .slice A1 l[k].d.bytes.length c1∧l[k].vn= .slice A2 l[k].d.names.length c2∧l[k].vt= .slice A3 l[k].d.tags.length c3∧l[k].vk= .slice A4 l[k].d.kids.length c4∧
   l[k].d.bytes.length≤maxLen∧l[k].d.names.length≤maxLen∧l[k].d.tags.length≤maxLen∧l[k].d.kids.length≤maxLen∧(∀W:World,(∀b o,b < B→W.cell? ⟨b,o,none⟩=w.cell? ⟨b,o,none⟩)→W.cell? ⟨b,off+k*8,none⟩=some (.string l[k].d.name)∧W.cell? ⟨b,off+k*8+1,none⟩=some (.int .i64 l[k].d.kind)∧
   W.cell? ⟨b,off+k*8+2,none⟩=some (.int .i64 l[k].d.size)∧W.cell? ⟨b,off+k*8+3,none⟩=some (.bool l[k].d.little)∧W.cell? ⟨b,off+k*8+4,none⟩=some (.slice A1 l[k].d.bytes.length c1)∧
   W.cell? ⟨b,off+k*8+5,none⟩=some (.slice A2 l[k].d.names.length c2)∧W.cell? ⟨b,off+k*8+6,none⟩=some (.slice A3 l[k].d.tags.length c3)∧W.cell? ⟨b,off+k*8+7,none⟩=some (.slice A4 l[k].d.kids.length c4)):=by
  obtain ⟨A,c,rfl,h1,h2, -⟩:=h.open_
  obtain ⟨b,off,A1,c1,A2,c2,A3,c3,A4,c4,eA,r⟩:=Zw h k hkl
  exact ⟨b,off,A1,c1,A2,c2,A3,c3,A4,c4,⟨A,c,rfl,eA,h2,h1⟩,r⟩
 obtain ⟨A,c,rfl,rfl,hm,hc⟩:=eA
 unfold maxLen at hm
 obtain ⟨W0,hW0⟩:∃W0,W0=w.alloc (.cells #[.slice (some ⟨b,off,none⟩) l.length c] 26):=⟨_,rfl⟩
 have hbW:Below w.heap.size w W0:=by rw [hW0];exact (Fv w.heap.size w).alloc (Fu _) _
 have y0:W0.cell? ⟨w.heap.size,0,none⟩=some (.slice (some ⟨b,off,none⟩) l.length c):=by rw [hW0];simp [go_sem]
 obtain ⟨-,r1,r2, -, -, -, -,r7⟩:=hcell W0 (Zu hbW hB)
 have v0:=Ec hbW p0'
 have v1:=Ec hbW p1'
 have v2:=Ec hbW p2'
 rw [q] at r1
 clear h e1 e2 e3 e4 m1 m2 m3 m4 hcell p0' p1' p2' ok sm hk
 generalize l[k]=r at*
 generalize r.d=d at*
 have R:=Ft r1 (Ft r2 (Ft r7 (Ft v0 (Ft v1 v2))))
 rw [hW0] at R
 obtain ⟨w1',w2',w7',z0',z1',z2'⟩:=R
 by_cases p0:xn=0
 ·subst p0
  by_cases p1:nb=0
  ·subst p1
   by_cases p2:ni=0
   ·subst p2
    have HX:=Fs (show Jr (l.map RM.d) d 0 0 0=true by rw [HO.out];simp)
    go_enter func78,ntmps78
    go_wp2_with fail
    refine (Zm _ _ _ _).mono ?_
    rintro e w9 ⟨rfl,rfl⟩
    rw [Xb]
    go_wp2
    go_ret
    exact ⟨Zd HX.out.symm,by first|exact hbW|(rw [←hW0];exact hbW)⟩
   ·have HX:=Fs (show Jr (l.map RM.d) d 0 0 ni=false by rw [HO.out];simp [p2])
    have f2:decide ((ni:Int)≤0)=false:=Fx (by omega)
    have g2:decide (ni=0)=false:=Fx p2
    have h2:(ni=0)=False:=eq_false p2
    clear p2
    go_enter func78,ntmps78
    go_wp2_with fail
    refine (Zm _ _ _ _).mono ?_
    rintro e w9 ⟨rfl,rfl⟩
    rw [Xb]
    go_wp2
    go_ret
    exact ⟨Zd HX.out.symm,by first|exact hbW|(rw [←hW0];exact hbW)⟩
  ·have HX:=Fs (show Jr (l.map RM.d) d 0 nb ni=false by rw [HO.out];simp [p1])
   have f1:decide ((nb:Int)≤0)=false:=Fx (by omega)
   have g1:decide (nb=0)=false:=Fx p1
   have h1:(nb=0)=False:=eq_false p1
   clear p1
   go_enter func78,ntmps78
   go_wp2_with fail
   refine (Zm _ _ _ _).mono ?_
   rintro e w9 ⟨rfl,rfl⟩
   rw [Xb]
   go_wp2
   go_ret
   exact ⟨Zd HX.out.symm,by first|exact hbW|(rw [←hW0];exact hbW)⟩
 ·have HX:=Fs (show Jr (l.map RM.d) d xn nb ni=false by rw [HO.out];simp [p0])
  have HIN:=Fs (Pg p0)
  clear p0
  go_enter func78,ntmps78
  go_wp2_with fail
  refine (Zm _ _ _ _).mono ?_
  rintro e w9 ⟨rfl,rfl⟩
  rw [HIN.out]
  go_wp2
  go_ret
  exact ⟨Zd HX.out.symm,by first|exact hbW|(rw [←hW0];exact hbW)⟩
theorem fits_3 (vD:Value) (l:List RM) (k:Nat) (xn:Int) (nb ni:Nat) (Ax Ay:Option Addr) (cx cy g o:Nat) (B:Nat) (w:World) (h:Qz w B vD l) (hB:B≤w.heap.size) (ok:∀r∈l,r.d.ok) (sm:∀r∈l,r.d.small 1048576) (hkl:k < l.length) (hk:Zp (l.map RM.d) l[k].d=true)
  (p0':w.cell? ⟨g,o,none⟩=some (.int .i64 xn)) (p1':w.cell? ⟨g,o+1,none⟩=some (.slice Ax nb cx)) (p2':w.cell? ⟨g,o+2,none⟩=some (.slice Ay ni cy)) (hbl:nb≤4194304) (hil:ni≤4194304) (q:l[k].d.kind=3):
  Calls prog 78 #[.agg #[vD], .int .i64 k, .pointer (some ⟨g,o,none⟩)] w fun e w'=> e= .returned (.bool (Jr (l.map RM.d) l[k].d xn nb ni))∧Below w.heap.size w w':=by
 have HO:=Fs ((Tc (D:=l.map RM.d) (n:=xn) (nb:=nb) (ni:=ni) (show l[k].d.kind≠7 by omega)).trans (own_3 q))
 obtain ⟨b,off,A1,c1,A2,c2,A3,c3,A4,c4,eA,hbB,e1,e2,e3,e4,m1,m2,m3,m4,hcell⟩:∃b off A1 c1 A2 c2 A3 c3 A4 c4,(∃A c,vD= .slice A l.length c∧A=some ⟨b,off,none⟩∧c≤maxLen∧l.length≤c)∧b < B∧l[k].vb= .slice A1 l[k].d.bytes.length c1∧l[k].vn= .slice A2 l[k].d.names.length c2∧l[k].vt= .slice A3 l[k].d.tags.length c3∧l[k].vk= .slice A4 l[k].d.kids.length c4∧
   l[k].d.bytes.length≤maxLen∧l[k].d.names.length≤maxLen∧l[k].d.tags.length≤maxLen∧l[k].d.kids.length≤maxLen∧(∀W:World,(∀b o,b < B→W.cell? ⟨b,o,none⟩=w.cell? ⟨b,o,none⟩)→W.cell? ⟨b,off+k*8,none⟩=some (.string l[k].d.name)∧W.cell? ⟨b,off+k*8+1,none⟩=some (.int .i64 l[k].d.kind)∧
   W.cell? ⟨b,off+k*8+2,none⟩=some (.int .i64 l[k].d.size)∧W.cell? ⟨b,off+k*8+3,none⟩=some (.bool l[k].d.little)∧W.cell? ⟨b,off+k*8+4,none⟩=some (.slice A1 l[k].d.bytes.length c1)∧
   W.cell? ⟨b,off+k*8+5,none⟩=some (.slice A2 l[k].d.names.length c2)∧W.cell? ⟨b,off+k*8+6,none⟩=some (.slice A3 l[k].d.tags.length c3)∧W.cell? ⟨b,off+k*8+7,none⟩=some (.slice A4 l[k].d.kids.length c4)):=by
  obtain ⟨A,c,rfl,h1,h2, -⟩:=h.open_
  obtain ⟨b,off,A1,c1,A2,c2,A3,c3,A4,c4,eA,r⟩:=Zw h k hkl
  exact ⟨b,off,A1,c1,A2,c2,A3,c3,A4,c4,⟨A,c,rfl,eA,h2,h1⟩,r⟩
 obtain ⟨A,c,rfl,rfl,hm,hc⟩:=eA
 unfold maxLen at hm
 obtain ⟨W0,hW0⟩:∃W0,W0=w.alloc (.cells #[.slice (some ⟨b,off,none⟩) l.length c] 26):=⟨_,rfl⟩
 have hbW:Below w.heap.size w W0:=by rw [hW0];exact (Fv w.heap.size w).alloc (Fu _) _
 have y0:W0.cell? ⟨w.heap.size,0,none⟩=some (.slice (some ⟨b,off,none⟩) l.length c):=by rw [hW0];simp [go_sem]
 obtain ⟨-,r1,r2, -, -, -, -,r7⟩:=hcell W0 (Zu hbW hB)
 have v0:=Ec hbW p0'
 have v1:=Ec hbW p1'
 have v2:=Ec hbW p2'
 rw [q] at r1
 clear h e1 e2 e3 e4 m1 m2 m3 m4 hcell p0' p1' p2' ok sm hk
 generalize l[k]=r at*
 generalize r.d=d at*
 have R:=Ft r1 (Ft r2 (Ft r7 (Ft v0 (Ft v1 v2))))
 rw [hW0] at R
 obtain ⟨w1',w2',w7',z0',z1',z2'⟩:=R
 by_cases p0:(nb:Int)=d.size
 ·by_cases p1:xn=0
  ·subst p1
   by_cases p2:ni=0
   ·subst p2
    have HX:=Fs (show Jr (l.map RM.d) d 0 nb 0=true by rw [HO.out];simp [p0])
    have f0:((nb:Int) !=d.size)=false:=by rw [p0];simp
    have g0:decide ((nb:Int)≤d.size)=true:=Fy (by omega)
    clear p0
    go_enter func78,ntmps78
    go_wp2_with fail
    try rw [←hW0]
    try clear hW0
    try clear w1' w2' w7' z0' z1' z2'
    refine wp_region_held_drew (S:=(fun w9=> w9.cell? ⟨b,off+k*8+2,none⟩=some (.int .i64 d.size)∧w9.cell? ⟨g,o+1,none⟩=some (.slice Ax nb cx))) (by kernel_rfl) ?_ (fun hHeld=> ?_)
    ·(try dsimp only);exact ⟨r2,v1⟩
    refine Za 0 (some 26) hHeld _ ?_;try go_frame
    refine Za 1 (some 27) hHeld _ ?_;try go_frame
    refine Za 2 (some 28) hHeld _ ?_;try go_frame
    refine Za 3 (some 29) hHeld _ ?_;try go_frame
    refine Za 4 (some 30) hHeld _ ?_;try go_frame
    refine Za 5 (some 31) hHeld _ ?_;try go_frame
    refine Za 6 (some 32) hHeld _ ?_;try go_frame
    refine Za 7 (some 33) hHeld _ ?_;try go_frame
    refine Za 8 (some 34) hHeld _ ?_;try go_frame
    refine Za 9 (some 35) hHeld _ ?_;try go_frame
    refine wpAnyH_done (by kernel_rfl) ?_ _
    have hbW:=hbW.drew
    go_wp2_with fail
    refine (Zm _ _ _ _).mono ?_
    rintro e w9 ⟨rfl,rfl⟩
    rw [Xb]
    go_wp2
    go_ret
    exact ⟨Zd HX.out.symm,by first|exact hbW|(rw [←hW0];exact hbW)⟩
   ·have HX:=Fs (show Jr (l.map RM.d) d 0 nb ni=false by rw [HO.out];simp [p0,p2])
    have f0:((nb:Int) !=d.size)=false:=by rw [p0];simp
    have g0:decide ((nb:Int)≤d.size)=true:=Fy (by omega)
    have f2:decide ((ni:Int)≤0)=false:=Fx (by omega)
    have g2:decide (ni=0)=false:=Fx p2
    have h2:(ni=0)=False:=eq_false p2
    clear p0 p2
    go_enter func78,ntmps78
    go_wp2_with fail
    try rw [←hW0]
    try clear hW0
    try clear w1' w2' w7' z0' z1' z2'
    refine wp_region_held_drew (S:=(fun w9=> w9.cell? ⟨b,off+k*8+2,none⟩=some (.int .i64 d.size)∧w9.cell? ⟨g,o+1,none⟩=some (.slice Ax nb cx))) (by kernel_rfl) ?_ (fun hHeld=> ?_)
    ·(try dsimp only);exact ⟨r2,v1⟩
    refine Za 0 (some 26) hHeld _ ?_;try go_frame
    refine Za 1 (some 27) hHeld _ ?_;try go_frame
    refine Za 2 (some 28) hHeld _ ?_;try go_frame
    refine Za 3 (some 29) hHeld _ ?_;try go_frame
    refine Za 4 (some 30) hHeld _ ?_;try go_frame
    refine Za 5 (some 31) hHeld _ ?_;try go_frame
    refine Za 6 (some 32) hHeld _ ?_;try go_frame
    refine Za 7 (some 33) hHeld _ ?_;try go_frame
    refine Za 8 (some 34) hHeld _ ?_;try go_frame
    refine Za 9 (some 35) hHeld _ ?_;try go_frame
    refine wpAnyH_done (by kernel_rfl) ?_ _
    have hbW:=hbW.drew
    go_wp2_with fail
    refine (Zm _ _ _ _).mono ?_
    rintro e w9 ⟨rfl,rfl⟩
    rw [Xb]
    go_wp2
    go_ret
    exact ⟨Zd HX.out.symm,by first|exact hbW|(rw [←hW0];exact hbW)⟩
  ·have HX:=Fs (show Jr (l.map RM.d) d xn nb ni=false by rw [HO.out];simp [p0,p1])
   have f0:((nb:Int) !=d.size)=false:=by rw [p0];simp
   have g0:decide ((nb:Int)≤d.size)=true:=Fy (by omega)
   have HIN:=Fs (Pg p1)
   clear p0 p1
   go_enter func78,ntmps78
   go_wp2_with fail
   try rw [←hW0]
   try clear hW0
   try clear w1' w2' w7' z0' z1' z2'
   refine wp_region_held_drew (S:=(fun w9=> w9.cell? ⟨b,off+k*8+2,none⟩=some (.int .i64 d.size)∧w9.cell? ⟨g,o+1,none⟩=some (.slice Ax nb cx))) (by kernel_rfl) ?_ (fun hHeld=> ?_)
   ·(try dsimp only);exact ⟨r2,v1⟩
   refine Za 0 (some 26) hHeld _ ?_;try go_frame
   refine Za 1 (some 27) hHeld _ ?_;try go_frame
   refine Za 2 (some 28) hHeld _ ?_;try go_frame
   refine Za 3 (some 29) hHeld _ ?_;try go_frame
   refine Za 4 (some 30) hHeld _ ?_;try go_frame
   refine Za 5 (some 31) hHeld _ ?_;try go_frame
   refine Za 6 (some 32) hHeld _ ?_;try go_frame
   refine Za 7 (some 33) hHeld _ ?_;try go_frame
   refine Za 8 (some 34) hHeld _ ?_;try go_frame
   refine Za 9 (some 35) hHeld _ ?_;try go_frame
   refine wpAnyH_done (by kernel_rfl) ?_ _
   have hbW:=hbW.drew
   go_wp2_with fail
   refine (Zm _ _ _ _).mono ?_
   rintro e w9 ⟨rfl,rfl⟩
   rw [HIN.out]
   go_wp2
   go_ret
   exact ⟨Zd HX.out.symm,by first|exact hbW|(rw [←hW0];exact hbW)⟩
 ·have HX:=Fs (show Jr (l.map RM.d) d xn nb ni=false by rw [HO.out];simp [p0])
  have f0:((nb:Int) !=d.size)=true:=by rw [bne_iff_ne];exact p0
  clear p0
  go_enter func78,ntmps78
  go_wp2_with fail
  try rw [←hW0]
  try clear hW0
  try clear w1' w2' w7' z0' z1' z2'
  refine wp_region_held_drew (S:=(fun w9=> w9.cell? ⟨b,off+k*8+2,none⟩=some (.int .i64 d.size)∧w9.cell? ⟨g,o+1,none⟩=some (.slice Ax nb cx))) (by kernel_rfl) ?_ (fun hHeld=> ?_)
  ·(try dsimp only);exact ⟨r2,v1⟩
  refine Za 0 (some 26) hHeld _ ?_;try go_frame
  refine Za 1 (some 27) hHeld _ ?_;try go_frame
  refine Za 2 (some 28) hHeld _ ?_;try go_frame
  refine Za 3 (some 29) hHeld _ ?_;try go_frame
  refine Za 4 (some 30) hHeld _ ?_;try go_frame
  refine Za 5 (some 31) hHeld _ ?_;try go_frame
  refine Za 6 (some 32) hHeld _ ?_;try go_frame
  refine Za 7 (some 33) hHeld _ ?_;try go_frame
  refine Za 8 (some 34) hHeld _ ?_;try go_frame
  refine Za 9 (some 35) hHeld _ ?_;try go_frame
  refine wpAnyH_done (by kernel_rfl) ?_ _
  have hbW:=hbW.drew
  go_wp2
  go_ret
  exact ⟨Zd HX.out.symm,hbW⟩
theorem fits_4 (vD:Value) (l:List RM) (k:Nat) (xn:Int) (nb ni:Nat) (Ax Ay:Option Addr) (cx cy g o:Nat) (B:Nat) (w:World) (h:Qz w B vD l) (hB:B≤w.heap.size) (ok:∀r∈l,r.d.ok) (sm:∀r∈l,r.d.small 1048576) (hkl:k < l.length) (hk:Zp (l.map RM.d) l[k].d=true)
  (p0':w.cell? ⟨g,o,none⟩=some (.int .i64 xn)) (p1':w.cell? ⟨g,o+1,none⟩=some (.slice Ax nb cx)) (p2':w.cell? ⟨g,o+2,none⟩=some (.slice Ay ni cy)) (hbl:nb≤4194304) (hil:ni≤4194304) (q:l[k].d.kind=4):
  Calls prog 78 #[.agg #[vD], .int .i64 k, .pointer (some ⟨g,o,none⟩)] w fun e w'=> e= .returned (.bool (Jr (l.map RM.d) l[k].d xn nb ni))∧Below w.heap.size w w':=by
 have hLIM:∀W i,Below w.heap.size w W→Qa i→Calls prog 90 #[.agg #[vD], .int .i64 i] W fun e w'=> e= .returned (.int .i64 (Zr (l.map RM.d) i))∧Below W.heap.size W w':=fun W i hb hi=> Xc vD l i B W (h.below (hb.mono hB)) (by have:=hb.size;omega) hi ok
 have HLIM:=Fs hLIM
 clear hLIM
 have hkl2:=kids_4 hk q
 have HO:=Fs ((Tc (D:=l.map RM.d) (n:=xn) (nb:=nb) (ni:=ni) (show l[k].d.kind≠7 by omega)).trans (own_4 q))
 obtain ⟨b,off,A1,c1,A2,c2,A3,c3,A4,c4,eA,hbB,e1,e2,e3,e4,m1,m2,m3,m4,hcell⟩:∃b off A1 c1 A2 c2 A3 c3 A4 c4,(∃A c,vD= .slice A l.length c∧A=some ⟨b,off,none⟩∧c≤maxLen∧l.length≤c)∧b < B∧l[k].vb= .slice A1 l[k].d.bytes.length c1∧l[k].vn= .slice A2 l[k].d.names.length c2∧l[k].vt= .slice A3 l[k].d.tags.length c3∧l[k].vk= .slice A4 l[k].d.kids.length c4∧
   l[k].d.bytes.length≤maxLen∧l[k].d.names.length≤maxLen∧l[k].d.tags.length≤maxLen∧l[k].d.kids.length≤maxLen∧(∀W:World,(∀b o,b < B→W.cell? ⟨b,o,none⟩=w.cell? ⟨b,o,none⟩)→W.cell? ⟨b,off+k*8,none⟩=some (.string l[k].d.name)∧W.cell? ⟨b,off+k*8+1,none⟩=some (.int .i64 l[k].d.kind)∧
   W.cell? ⟨b,off+k*8+2,none⟩=some (.int .i64 l[k].d.size)∧W.cell? ⟨b,off+k*8+3,none⟩=some (.bool l[k].d.little)∧W.cell? ⟨b,off+k*8+4,none⟩=some (.slice A1 l[k].d.bytes.length c1)∧
   W.cell? ⟨b,off+k*8+5,none⟩=some (.slice A2 l[k].d.names.length c2)∧W.cell? ⟨b,off+k*8+6,none⟩=some (.slice A3 l[k].d.tags.length c3)∧W.cell? ⟨b,off+k*8+7,none⟩=some (.slice A4 l[k].d.kids.length c4)):=by
  obtain ⟨A,c,rfl,h1,h2, -⟩:=h.open_
  obtain ⟨b,off,A1,c1,A2,c2,A3,c3,A4,c4,eA,r⟩:=Zw h k hkl
  exact ⟨b,off,A1,c1,A2,c2,A3,c3,A4,c4,⟨A,c,rfl,eA,h2,h1⟩,r⟩
 obtain ⟨A,c,rfl,rfl,hm,hc⟩:=eA
 unfold maxLen at hm
 obtain ⟨Ak,ck,ek,hck,hmk,hkc⟩:=(h.2 _ (Fw hkl)).k.one
 rw [e4] at ek
 simp only [Value.slice.injEq] at ek
 obtain ⟨rfl, -,rfl⟩:=ek
 obtain ⟨bk,fk,rfl,hbk,ck0⟩:=hkc 0 (by omega)
 rw [←Jb l[k].d 0 (by omega),Nat.add_zero] at ck0
 have hki:Qa (Xt l[k].d 0):=by rw [Jb l[k].d 0 (by omega)];exact (ok _ (Fw hkl)).kids _ (Fw _)
 have HLK:=Fs (fun W hb=> HLIM.out W (Xt l[k].d 0) hb hki)
 obtain ⟨lm,hlm⟩:∃lm,lm=Zr (l.map RM.d) (Xt l[k].d 0):=⟨_,rfl⟩
 rw [←hlm] at HO HLK
 have HLM:=Fs hlm
 clear hlm hki HLIM hkc hck hmk
 obtain ⟨mm,hmm⟩:∃mm,mm=min 400 lm:=⟨_,rfl⟩
 rw [←hmm] at HO
 have HM:=Fs hmm
 clear hmm
 obtain ⟨W0,hW0⟩:∃W0,W0=w.alloc (.cells #[.slice (some ⟨b,off,none⟩) l.length c] 26):=⟨_,rfl⟩
 have hbW:Below w.heap.size w W0:=by rw [hW0];exact (Fv w.heap.size w).alloc (Fu _) _
 have y0:W0.cell? ⟨w.heap.size,0,none⟩=some (.slice (some ⟨b,off,none⟩) l.length c):=by rw [hW0];simp [go_sem]
 obtain ⟨-,r1,r2, -, -, -, -,r7⟩:=hcell W0 (Zu hbW hB)
 have v0:=Ec hbW p0'
 have v1:=Ec hbW p1'
 have v2:=Ec hbW p2'
 have ck1:=Zc ck0 (hbW.mono hB) hbk
 clear ck0
 rw [q] at r1
 clear h e1 e2 e3 e4 m1 m2 m3 m4 hcell p0' p1' p2' ok sm hk
 generalize l[k]=r at*
 generalize r.d=d at*
 have R:=Ft r1 (Ft r2 (Ft r7 (Ft v0 (Ft v1 v2))))
 rw [hW0] at R
 obtain ⟨w1',w2',w7',z0',z1',z2'⟩:=R
 generalize Xt d 0=kv at*
 have hk1:0 < d.kids.length:=by omega
 have HK2:=Fs hkl2
 clear hkl2
 by_cases p0:xn=0
 ·subst p0
  by_cases p1:(nb:Int)≤mm
  ·by_cases p2:ni=0
   ·subst p2
    have HX:=Fs (show Jr (l.map RM.d) d 0 nb 0=true by rw [HO.out];simp [p1])
    have f1:decide ((nb:Int)≤mm)=true:=Fy p1
    clear p1
    go_enter func78,ntmps78
    go_wp2_with fail
    try rw [←hW0]
    try clear hW0
    try clear w1' w2' w7' z0' z1' z2'
    refine wp_region_held_drew (S:=(fun w9=> w9.cell? ⟨w.heap.size,0,none⟩=some (.slice (some ⟨b,off,none⟩) l.length c)∧w9.cell? ⟨b,off+k*8+7,none⟩=some (.slice (some ⟨bk,fk,none⟩) d.kids.length c4)∧w9.cell? ⟨bk,fk,none⟩=some (.int .i64 kv))) (by kernel_rfl) ?_ (fun hHeld=> ?_)
    ·(try dsimp only);exact ⟨y0,r7,ck1⟩
    refine Za 0 (some 42) hHeld _ ?_;try go_frame
    refine Za 1 (some 43) hHeld _ ?_;try go_frame
    refine Za 2 (some 44) hHeld _ ?_;try go_frame
    refine Za 3 (some 45) hHeld _ ?_;try go_frame
    refine Za 4 (some 46) hHeld _ ?_;try go_frame
    refine Za 5 (some 47) hHeld _ ?_;try go_frame
    refine Za 6 (some 48) hHeld _ ?_;try go_frame
    refine Zh 7 (fun K hK=> ?_)
    go_simp
    refine (HLK.out _ hbW.drew).mono ?_;rintro e w1 ⟨rfl,bel⟩;have bq:=Zb bel ((Fv W0.heap.size W0).drew)
    (try go_wp2_with fail)
    refine hK.out _ _ ?_ (fun hHeld=> ?_)
    ·(try dsimp only);exact ⟨Ec bq y0,Ec bq r7,Ec bq ck1⟩
    clear hK K
    try go_frame
    refine Zh 8 (fun K hK=> ?_)
    go_simp
    refine (Uv _ _ _).mono ?_;rintro e w2 ⟨rfl,bel⟩;rw [←HM.out];have bq:=Zb bel bq
    (try go_wp2_with fail)
    refine hK.out _ _ ?_ (fun hHeld=> ?_)
    ·(try dsimp only);exact ⟨Ec bq y0,Ec bq r7,Ec bq ck1⟩
    clear hK K
    try go_frame
    refine Za 9 (some 9) hHeld _ ?_;try go_frame
    refine wpAnyH_done (by kernel_rfl) ?_ _
    have hbW:=hbW.trans (bq.mono hbW.size)
    have r1:=Ec bq r1
    have v0:=Ec bq v0
    have v1:=Ec bq v1
    have v2:=Ec bq v2
    clear bel bq y0 r2 r7 ck1
    go_wp2_with fail
    refine (Zm _ _ _ _).mono ?_
    rintro e w9 ⟨rfl,rfl⟩
    rw [Xb]
    go_wp2
    go_ret
    exact ⟨Zd HX.out.symm,by first|exact hbW|(rw [←hW0];exact hbW)⟩
   ·have HX:=Fs (show Jr (l.map RM.d) d 0 nb ni=false by rw [HO.out];simp [p1,p2])
    have f1:decide ((nb:Int)≤mm)=true:=Fy p1
    have f2:decide ((ni:Int)≤0)=false:=Fx (by omega)
    have g2:decide (ni=0)=false:=Fx p2
    have h2:(ni=0)=False:=eq_false p2
    clear p1 p2
    go_enter func78,ntmps78
    go_wp2_with fail
    try rw [←hW0]
    try clear hW0
    try clear w1' w2' w7' z0' z1' z2'
    refine wp_region_held_drew (S:=(fun w9=> w9.cell? ⟨w.heap.size,0,none⟩=some (.slice (some ⟨b,off,none⟩) l.length c)∧w9.cell? ⟨b,off+k*8+7,none⟩=some (.slice (some ⟨bk,fk,none⟩) d.kids.length c4)∧w9.cell? ⟨bk,fk,none⟩=some (.int .i64 kv))) (by kernel_rfl) ?_ (fun hHeld=> ?_)
    ·(try dsimp only);exact ⟨y0,r7,ck1⟩
    refine Za 0 (some 42) hHeld _ ?_;try go_frame
    refine Za 1 (some 43) hHeld _ ?_;try go_frame
    refine Za 2 (some 44) hHeld _ ?_;try go_frame
    refine Za 3 (some 45) hHeld _ ?_;try go_frame
    refine Za 4 (some 46) hHeld _ ?_;try go_frame
    refine Za 5 (some 47) hHeld _ ?_;try go_frame
    refine Za 6 (some 48) hHeld _ ?_;try go_frame
    refine Zh 7 (fun K hK=> ?_)
    go_simp
    refine (HLK.out _ hbW.drew).mono ?_;rintro e w1 ⟨rfl,bel⟩;have bq:=Zb bel ((Fv W0.heap.size W0).drew)
    (try go_wp2_with fail)
    refine hK.out _ _ ?_ (fun hHeld=> ?_)
    ·(try dsimp only);exact ⟨Ec bq y0,Ec bq r7,Ec bq ck1⟩
    clear hK K
    try go_frame
    refine Zh 8 (fun K hK=> ?_)
    go_simp
    refine (Uv _ _ _).mono ?_;rintro e w2 ⟨rfl,bel⟩;rw [←HM.out];have bq:=Zb bel bq
    (try go_wp2_with fail)
    refine hK.out _ _ ?_ (fun hHeld=> ?_)
    ·(try dsimp only);exact ⟨Ec bq y0,Ec bq r7,Ec bq ck1⟩
    clear hK K
    try go_frame
    refine Za 9 (some 9) hHeld _ ?_;try go_frame
    refine wpAnyH_done (by kernel_rfl) ?_ _
    have hbW:=hbW.trans (bq.mono hbW.size)
    have r1:=Ec bq r1
    have v0:=Ec bq v0
    have v1:=Ec bq v1
    have v2:=Ec bq v2
    clear bel bq y0 r2 r7 ck1
    go_wp2_with fail
    refine (Zm _ _ _ _).mono ?_
    rintro e w9 ⟨rfl,rfl⟩
    rw [Xb]
    go_wp2
    go_ret
    exact ⟨Zd HX.out.symm,by first|exact hbW|(rw [←hW0];exact hbW)⟩
  ·have HX:=Fs (show Jr (l.map RM.d) d 0 nb ni=false by rw [HO.out];simp [p1])
   have f1:decide ((nb:Int)≤mm)=false:=Fx p1
   clear p1
   go_enter func78,ntmps78
   go_wp2_with fail
   try rw [←hW0]
   try clear hW0
   try clear w1' w2' w7' z0' z1' z2'
   refine wp_region_held_drew (S:=(fun w9=> w9.cell? ⟨w.heap.size,0,none⟩=some (.slice (some ⟨b,off,none⟩) l.length c)∧w9.cell? ⟨b,off+k*8+7,none⟩=some (.slice (some ⟨bk,fk,none⟩) d.kids.length c4)∧w9.cell? ⟨bk,fk,none⟩=some (.int .i64 kv))) (by kernel_rfl) ?_ (fun hHeld=> ?_)
   ·(try dsimp only);exact ⟨y0,r7,ck1⟩
   refine Za 0 (some 42) hHeld _ ?_;try go_frame
   refine Za 1 (some 43) hHeld _ ?_;try go_frame
   refine Za 2 (some 44) hHeld _ ?_;try go_frame
   refine Za 3 (some 45) hHeld _ ?_;try go_frame
   refine Za 4 (some 46) hHeld _ ?_;try go_frame
   refine Za 5 (some 47) hHeld _ ?_;try go_frame
   refine Za 6 (some 48) hHeld _ ?_;try go_frame
   refine Zh 7 (fun K hK=> ?_)
   go_simp
   refine (HLK.out _ hbW.drew).mono ?_;rintro e w1 ⟨rfl,bel⟩;have bq:=Zb bel ((Fv W0.heap.size W0).drew)
   (try go_wp2_with fail)
   refine hK.out _ _ ?_ (fun hHeld=> ?_)
   ·(try dsimp only);exact ⟨Ec bq y0,Ec bq r7,Ec bq ck1⟩
   clear hK K
   try go_frame
   refine Zh 8 (fun K hK=> ?_)
   go_simp
   refine (Uv _ _ _).mono ?_;rintro e w2 ⟨rfl,bel⟩;rw [←HM.out];have bq:=Zb bel bq
   (try go_wp2_with fail)
   refine hK.out _ _ ?_ (fun hHeld=> ?_)
   ·(try dsimp only);exact ⟨Ec bq y0,Ec bq r7,Ec bq ck1⟩
   clear hK K
   try go_frame
   refine Za 9 (some 9) hHeld _ ?_;try go_frame
   refine wpAnyH_done (by kernel_rfl) ?_ _
   have hbW:=hbW.trans (bq.mono hbW.size)
   have r1:=Ec bq r1
   have v0:=Ec bq v0
   have v1:=Ec bq v1
   have v2:=Ec bq v2
   clear bel bq y0 r2 r7 ck1
   go_wp2_with fail
   refine (Zm _ _ _ _).mono ?_
   rintro e w9 ⟨rfl,rfl⟩
   rw [Xb]
   go_wp2
   go_ret
   exact ⟨Zd HX.out.symm,by first|exact hbW|(rw [←hW0];exact hbW)⟩
 ·have HX:=Fs (show Jr (l.map RM.d) d xn nb ni=false by rw [HO.out];simp [p0])
  have HIN:=Fs (Pg p0)
  clear p0
  go_enter func78,ntmps78
  go_wp2_with fail
  try rw [←hW0]
  try clear hW0
  try clear w1' w2' w7' z0' z1' z2'
  refine wp_region_held_drew (S:=(fun w9=> w9.cell? ⟨w.heap.size,0,none⟩=some (.slice (some ⟨b,off,none⟩) l.length c)∧w9.cell? ⟨b,off+k*8+7,none⟩=some (.slice (some ⟨bk,fk,none⟩) d.kids.length c4)∧w9.cell? ⟨bk,fk,none⟩=some (.int .i64 kv))) (by kernel_rfl) ?_ (fun hHeld=> ?_)
  ·(try dsimp only);exact ⟨y0,r7,ck1⟩
  refine Za 0 (some 42) hHeld _ ?_;try go_frame
  refine Za 1 (some 43) hHeld _ ?_;try go_frame
  refine Za 2 (some 44) hHeld _ ?_;try go_frame
  refine Za 3 (some 45) hHeld _ ?_;try go_frame
  refine Za 4 (some 46) hHeld _ ?_;try go_frame
  refine Za 5 (some 47) hHeld _ ?_;try go_frame
  refine Za 6 (some 48) hHeld _ ?_;try go_frame
  refine Zh 7 (fun K hK=> ?_)
  go_simp
  refine (HLK.out _ hbW.drew).mono ?_;rintro e w1 ⟨rfl,bel⟩;have bq:=Zb bel ((Fv W0.heap.size W0).drew)
  (try go_wp2_with fail)
  refine hK.out _ _ ?_ (fun hHeld=> ?_)
  ·(try dsimp only);exact ⟨Ec bq y0,Ec bq r7,Ec bq ck1⟩
  clear hK K
  try go_frame
  refine Zh 8 (fun K hK=> ?_)
  go_simp
  refine (Uv _ _ _).mono ?_;rintro e w2 ⟨rfl,bel⟩;rw [←HM.out];have bq:=Zb bel bq
  (try go_wp2_with fail)
  refine hK.out _ _ ?_ (fun hHeld=> ?_)
  ·(try dsimp only);exact ⟨Ec bq y0,Ec bq r7,Ec bq ck1⟩
  clear hK K
  try go_frame
  refine Za 9 (some 9) hHeld _ ?_;try go_frame
  refine wpAnyH_done (by kernel_rfl) ?_ _
  have hbW:=hbW.trans (bq.mono hbW.size)
  have r1:=Ec bq r1
  have v0:=Ec bq v0
  have v1:=Ec bq v1
  have v2:=Ec bq v2
  clear bel bq y0 r2 r7 ck1
  go_wp2_with fail
  refine (Zm _ _ _ _).mono ?_
  rintro e w9 ⟨rfl,rfl⟩
  rw [HIN.out]
  go_wp2
  go_ret
  exact ⟨Zd HX.out.symm,by first|exact hbW|(rw [←hW0];exact hbW)⟩
theorem fits_5 (vD:Value) (l:List RM) (k:Nat) (xn:Int) (nb ni:Nat) (Ax Ay:Option Addr) (cx cy g o:Nat) (B:Nat) (w:World) (h:Qz w B vD l) (hB:B≤w.heap.size) (ok:∀r∈l,r.d.ok) (sm:∀r∈l,r.d.small 1048576) (hkl:k < l.length) (hk:Zp (l.map RM.d) l[k].d=true)
  (p0':w.cell? ⟨g,o,none⟩=some (.int .i64 xn)) (p1':w.cell? ⟨g,o+1,none⟩=some (.slice Ax nb cx)) (p2':w.cell? ⟨g,o+2,none⟩=some (.slice Ay ni cy)) (hbl:nb≤4194304) (hil:ni≤4194304) (q:l[k].d.kind=5):
  Calls prog 78 #[.agg #[vD], .int .i64 k, .pointer (some ⟨g,o,none⟩)] w fun e w'=> e= .returned (.bool (Jr (l.map RM.d) l[k].d xn nb ni))∧Below w.heap.size w w':=by
 have hLIM:∀W i,Below w.heap.size w W→Qa i→Calls prog 90 #[.agg #[vD], .int .i64 i] W fun e w'=> e= .returned (.int .i64 (Zr (l.map RM.d) i))∧Below W.heap.size W w':=fun W i hb hi=> Xc vD l i B W (h.below (hb.mono hB)) (by have:=hb.size;omega) hi ok
 have HLIM:=Fs hLIM
 clear hLIM
 have hkl2:=Ir hk q
 have HO:=Fs ((Tc (D:=l.map RM.d) (n:=xn) (nb:=nb) (ni:=ni) (show l[k].d.kind≠7 by omega)).trans (own_5 q))
 obtain ⟨b,off,A1,c1,A2,c2,A3,c3,A4,c4,eA,hbB,e1,e2,e3,e4,m1,m2,m3,m4,hcell⟩:∃b off A1 c1 A2 c2 A3 c3 A4 c4,(∃A c,vD= .slice A l.length c∧A=some ⟨b,off,none⟩∧c≤maxLen∧l.length≤c)∧b < B∧l[k].vb= .slice A1 l[k].d.bytes.length c1∧l[k].vn= .slice A2 l[k].d.names.length c2∧l[k].vt= .slice A3 l[k].d.tags.length c3∧l[k].vk= .slice A4 l[k].d.kids.length c4∧
   l[k].d.bytes.length≤maxLen∧l[k].d.names.length≤maxLen∧l[k].d.tags.length≤maxLen∧l[k].d.kids.length≤maxLen∧(∀W:World,(∀b o,b < B→W.cell? ⟨b,o,none⟩=w.cell? ⟨b,o,none⟩)→W.cell? ⟨b,off+k*8,none⟩=some (.string l[k].d.name)∧W.cell? ⟨b,off+k*8+1,none⟩=some (.int .i64 l[k].d.kind)∧
   W.cell? ⟨b,off+k*8+2,none⟩=some (.int .i64 l[k].d.size)∧W.cell? ⟨b,off+k*8+3,none⟩=some (.bool l[k].d.little)∧W.cell? ⟨b,off+k*8+4,none⟩=some (.slice A1 l[k].d.bytes.length c1)∧
   W.cell? ⟨b,off+k*8+5,none⟩=some (.slice A2 l[k].d.names.length c2)∧W.cell? ⟨b,off+k*8+6,none⟩=some (.slice A3 l[k].d.tags.length c3)∧W.cell? ⟨b,off+k*8+7,none⟩=some (.slice A4 l[k].d.kids.length c4)):=by
  obtain ⟨A,c,rfl,h1,h2, -⟩:=h.open_
  obtain ⟨b,off,A1,c1,A2,c2,A3,c3,A4,c4,eA,r⟩:=Zw h k hkl
  exact ⟨b,off,A1,c1,A2,c2,A3,c3,A4,c4,⟨A,c,rfl,eA,h2,h1⟩,r⟩
 obtain ⟨A,c,rfl,rfl,hm,hc⟩:=eA
 unfold maxLen at hm
 obtain ⟨Ak,ck,ek,hck,hmk,hkc⟩:=(h.2 _ (Fw hkl)).k.one
 rw [e4] at ek
 simp only [Value.slice.injEq] at ek
 obtain ⟨rfl, -,rfl⟩:=ek
 obtain ⟨bk,fk,rfl,hbk,ck0⟩:=hkc 0 (by omega)
 rw [←Jb l[k].d 0 (by omega),Nat.add_zero] at ck0
 have hki:Qa (Xt l[k].d 0):=by rw [Jb l[k].d 0 (by omega)];exact (ok _ (Fw hkl)).kids _ (Fw _)
 have HLK:=Fs (fun W hb=> HLIM.out W (Xt l[k].d 0) hb hki)
 obtain ⟨lm,hlm⟩:∃lm,lm=Zr (l.map RM.d) (Xt l[k].d 0):=⟨_,rfl⟩
 rw [←hlm] at HO HLK
 have HLM:=Fs hlm
 clear hlm hki HLIM hkc hck hmk
 obtain ⟨mm,hmm⟩:∃mm,mm=min 40 lm:=⟨_,rfl⟩
 rw [←hmm] at HO
 have HM:=Fs hmm
 clear hmm
 obtain ⟨W0,hW0⟩:∃W0,W0=w.alloc (.cells #[.slice (some ⟨b,off,none⟩) l.length c] 26):=⟨_,rfl⟩
 have hbW:Below w.heap.size w W0:=by rw [hW0];exact (Fv w.heap.size w).alloc (Fu _) _
 have y0:W0.cell? ⟨w.heap.size,0,none⟩=some (.slice (some ⟨b,off,none⟩) l.length c):=by rw [hW0];simp [go_sem]
 obtain ⟨-,r1,r2, -, -, -, -,r7⟩:=hcell W0 (Zu hbW hB)
 have v0:=Ec hbW p0'
 have v1:=Ec hbW p1'
 have v2:=Ec hbW p2'
 have ck1:=Zc ck0 (hbW.mono hB) hbk
 clear ck0
 rw [q] at r1
 clear h e1 e2 e3 e4 m1 m2 m3 m4 hcell p0' p1' p2' ok sm hk
 generalize l[k]=r at*
 generalize r.d=d at*
 have R:=Ft r1 (Ft r2 (Ft r7 (Ft v0 (Ft v1 v2))))
 rw [hW0] at R
 obtain ⟨w1',w2',w7',z0',z1',z2'⟩:=R
 generalize Xt d 0=kv at*
 have hk1:0 < d.kids.length:=by omega
 have HK2:=Fs hkl2
 clear hkl2
 by_cases p0:xn=0
 ·subst p0
  by_cases p1:nb=0
  ·subst p1
   by_cases p2:(ni:Int)≤mm
   ·have HX:=Fs (show Jr (l.map RM.d) d 0 0 ni=true by rw [HO.out];simp [p2])
    have f2:decide ((ni:Int)≤mm)=true:=Fy p2
    clear p2
    go_enter func78,ntmps78
    go_wp2_with fail
    try rw [←hW0]
    try clear hW0
    try clear w1' w2' w7' z0' z1' z2'
    refine wp_region_held_drew (S:=(fun w9=> w9.cell? ⟨w.heap.size,0,none⟩=some (.slice (some ⟨b,off,none⟩) l.length c)∧w9.cell? ⟨b,off+k*8+7,none⟩=some (.slice (some ⟨bk,fk,none⟩) d.kids.length c4)∧w9.cell? ⟨bk,fk,none⟩=some (.int .i64 kv))) (by kernel_rfl) ?_ (fun hHeld=> ?_)
    ·(try dsimp only);exact ⟨y0,r7,ck1⟩
    refine Za 0 (some 55) hHeld _ ?_;try go_frame
    refine Za 1 (some 56) hHeld _ ?_;try go_frame
    refine Za 2 (some 57) hHeld _ ?_;try go_frame
    refine Za 3 (some 58) hHeld _ ?_;try go_frame
    refine Za 4 (some 59) hHeld _ ?_;try go_frame
    refine Za 5 (some 60) hHeld _ ?_;try go_frame
    refine Za 6 (some 61) hHeld _ ?_;try go_frame
    refine Zh 7 (fun K hK=> ?_)
    go_simp
    refine (HLK.out _ hbW.drew).mono ?_;rintro e w1 ⟨rfl,bel⟩;have bq:=Zb bel ((Fv W0.heap.size W0).drew)
    (try go_wp2_with fail)
    refine hK.out _ _ ?_ (fun hHeld=> ?_)
    ·(try dsimp only);exact ⟨Ec bq y0,Ec bq r7,Ec bq ck1⟩
    clear hK K
    try go_frame
    refine Zh 8 (fun K hK=> ?_)
    go_simp
    refine (Uv _ _ _).mono ?_;rintro e w2 ⟨rfl,bel⟩;rw [←HM.out];have bq:=Zb bel bq
    (try go_wp2_with fail)
    refine hK.out _ _ ?_ (fun hHeld=> ?_)
    ·(try dsimp only);exact ⟨Ec bq y0,Ec bq r7,Ec bq ck1⟩
    clear hK K
    try go_frame
    refine Za 9 (some 10) hHeld _ ?_;try go_frame
    refine wpAnyH_done (by kernel_rfl) ?_ _
    have hbW:=hbW.trans (bq.mono hbW.size)
    have r1:=Ec bq r1
    have v0:=Ec bq v0
    have v1:=Ec bq v1
    have v2:=Ec bq v2
    clear bel bq y0 r2 r7 ck1
    go_wp2_with fail
    refine (Zm _ _ _ _).mono ?_
    rintro e w9 ⟨rfl,rfl⟩
    rw [Xb]
    go_wp2
    go_ret
    exact ⟨Zd HX.out.symm,by first|exact hbW|(rw [←hW0];exact hbW)⟩
   ·have HX:=Fs (show Jr (l.map RM.d) d 0 0 ni=false by rw [HO.out];simp [p2])
    have f2:decide ((ni:Int)≤mm)=false:=Fx p2
    clear p2
    go_enter func78,ntmps78
    go_wp2_with fail
    try rw [←hW0]
    try clear hW0
    try clear w1' w2' w7' z0' z1' z2'
    refine wp_region_held_drew (S:=(fun w9=> w9.cell? ⟨w.heap.size,0,none⟩=some (.slice (some ⟨b,off,none⟩) l.length c)∧w9.cell? ⟨b,off+k*8+7,none⟩=some (.slice (some ⟨bk,fk,none⟩) d.kids.length c4)∧w9.cell? ⟨bk,fk,none⟩=some (.int .i64 kv))) (by kernel_rfl) ?_ (fun hHeld=> ?_)
    ·(try dsimp only);exact ⟨y0,r7,ck1⟩
    refine Za 0 (some 55) hHeld _ ?_;try go_frame
    refine Za 1 (some 56) hHeld _ ?_;try go_frame
    refine Za 2 (some 57) hHeld _ ?_;try go_frame
    refine Za 3 (some 58) hHeld _ ?_;try go_frame
    refine Za 4 (some 59) hHeld _ ?_;try go_frame
    refine Za 5 (some 60) hHeld _ ?_;try go_frame
    refine Za 6 (some 61) hHeld _ ?_;try go_frame
    refine Zh 7 (fun K hK=> ?_)
    go_simp
    refine (HLK.out _ hbW.drew).mono ?_;rintro e w1 ⟨rfl,bel⟩;have bq:=Zb bel ((Fv W0.heap.size W0).drew)
    (try go_wp2_with fail)
    refine hK.out _ _ ?_ (fun hHeld=> ?_)
    ·(try dsimp only);exact ⟨Ec bq y0,Ec bq r7,Ec bq ck1⟩
    clear hK K
    try go_frame
    refine Zh 8 (fun K hK=> ?_)
    go_simp
    refine (Uv _ _ _).mono ?_;rintro e w2 ⟨rfl,bel⟩;rw [←HM.out];have bq:=Zb bel bq
    (try go_wp2_with fail)
    refine hK.out _ _ ?_ (fun hHeld=> ?_)
    ·(try dsimp only);exact ⟨Ec bq y0,Ec bq r7,Ec bq ck1⟩
    clear hK K
    try go_frame
    refine Za 9 (some 10) hHeld _ ?_;try go_frame
    refine wpAnyH_done (by kernel_rfl) ?_ _
    have hbW:=hbW.trans (bq.mono hbW.size)
    have r1:=Ec bq r1
    have v0:=Ec bq v0
    have v1:=Ec bq v1
    have v2:=Ec bq v2
    clear bel bq y0 r2 r7 ck1
    go_wp2_with fail
    refine (Zm _ _ _ _).mono ?_
    rintro e w9 ⟨rfl,rfl⟩
    rw [Xb]
    go_wp2
    go_ret
    exact ⟨Zd HX.out.symm,by first|exact hbW|(rw [←hW0];exact hbW)⟩
  ·have HX:=Fs (show Jr (l.map RM.d) d 0 nb ni=false by rw [HO.out];simp [p1])
   have f1:decide ((nb:Int)≤0)=false:=Fx (by omega)
   have g1:decide (nb=0)=false:=Fx p1
   have h1:(nb=0)=False:=eq_false p1
   clear p1
   go_enter func78,ntmps78
   go_wp2_with fail
   try rw [←hW0]
   try clear hW0
   try clear w1' w2' w7' z0' z1' z2'
   refine wp_region_held_drew (S:=(fun w9=> w9.cell? ⟨w.heap.size,0,none⟩=some (.slice (some ⟨b,off,none⟩) l.length c)∧w9.cell? ⟨b,off+k*8+7,none⟩=some (.slice (some ⟨bk,fk,none⟩) d.kids.length c4)∧w9.cell? ⟨bk,fk,none⟩=some (.int .i64 kv))) (by kernel_rfl) ?_ (fun hHeld=> ?_)
   ·(try dsimp only);exact ⟨y0,r7,ck1⟩
   refine Za 0 (some 55) hHeld _ ?_;try go_frame
   refine Za 1 (some 56) hHeld _ ?_;try go_frame
   refine Za 2 (some 57) hHeld _ ?_;try go_frame
   refine Za 3 (some 58) hHeld _ ?_;try go_frame
   refine Za 4 (some 59) hHeld _ ?_;try go_frame
   refine Za 5 (some 60) hHeld _ ?_;try go_frame
   refine Za 6 (some 61) hHeld _ ?_;try go_frame
   refine Zh 7 (fun K hK=> ?_)
   go_simp
   refine (HLK.out _ hbW.drew).mono ?_;rintro e w1 ⟨rfl,bel⟩;have bq:=Zb bel ((Fv W0.heap.size W0).drew)
   (try go_wp2_with fail)
   refine hK.out _ _ ?_ (fun hHeld=> ?_)
   ·(try dsimp only);exact ⟨Ec bq y0,Ec bq r7,Ec bq ck1⟩
   clear hK K
   try go_frame
   refine Zh 8 (fun K hK=> ?_)
   go_simp
   refine (Uv _ _ _).mono ?_;rintro e w2 ⟨rfl,bel⟩;rw [←HM.out];have bq:=Zb bel bq
   (try go_wp2_with fail)
   refine hK.out _ _ ?_ (fun hHeld=> ?_)
   ·(try dsimp only);exact ⟨Ec bq y0,Ec bq r7,Ec bq ck1⟩
   clear hK K
   try go_frame
   refine Za 9 (some 10) hHeld _ ?_;try go_frame
   refine wpAnyH_done (by kernel_rfl) ?_ _
   have hbW:=hbW.trans (bq.mono hbW.size)
   have r1:=Ec bq r1
   have v0:=Ec bq v0
   have v1:=Ec bq v1
   have v2:=Ec bq v2
   clear bel bq y0 r2 r7 ck1
   go_wp2_with fail
   refine (Zm _ _ _ _).mono ?_
   rintro e w9 ⟨rfl,rfl⟩
   rw [Xb]
   go_wp2
   go_ret
   exact ⟨Zd HX.out.symm,by first|exact hbW|(rw [←hW0];exact hbW)⟩
 ·have HX:=Fs (show Jr (l.map RM.d) d xn nb ni=false by rw [HO.out];simp [p0])
  have HIN:=Fs (Pg p0)
  clear p0
  go_enter func78,ntmps78
  go_wp2_with fail
  try rw [←hW0]
  try clear hW0
  try clear w1' w2' w7' z0' z1' z2'
  refine wp_region_held_drew (S:=(fun w9=> w9.cell? ⟨w.heap.size,0,none⟩=some (.slice (some ⟨b,off,none⟩) l.length c)∧w9.cell? ⟨b,off+k*8+7,none⟩=some (.slice (some ⟨bk,fk,none⟩) d.kids.length c4)∧w9.cell? ⟨bk,fk,none⟩=some (.int .i64 kv))) (by kernel_rfl) ?_ (fun hHeld=> ?_)
  ·(try dsimp only);exact ⟨y0,r7,ck1⟩
  refine Za 0 (some 55) hHeld _ ?_;try go_frame
  refine Za 1 (some 56) hHeld _ ?_;try go_frame
  refine Za 2 (some 57) hHeld _ ?_;try go_frame
  refine Za 3 (some 58) hHeld _ ?_;try go_frame
  refine Za 4 (some 59) hHeld _ ?_;try go_frame
  refine Za 5 (some 60) hHeld _ ?_;try go_frame
  refine Za 6 (some 61) hHeld _ ?_;try go_frame
  refine Zh 7 (fun K hK=> ?_)
  go_simp
  refine (HLK.out _ hbW.drew).mono ?_;rintro e w1 ⟨rfl,bel⟩;have bq:=Zb bel ((Fv W0.heap.size W0).drew)
  (try go_wp2_with fail)
  refine hK.out _ _ ?_ (fun hHeld=> ?_)
  ·(try dsimp only);exact ⟨Ec bq y0,Ec bq r7,Ec bq ck1⟩
  clear hK K
  try go_frame
  refine Zh 8 (fun K hK=> ?_)
  go_simp
  refine (Uv _ _ _).mono ?_;rintro e w2 ⟨rfl,bel⟩;rw [←HM.out];have bq:=Zb bel bq
  (try go_wp2_with fail)
  refine hK.out _ _ ?_ (fun hHeld=> ?_)
  ·(try dsimp only);exact ⟨Ec bq y0,Ec bq r7,Ec bq ck1⟩
  clear hK K
  try go_frame
  refine Za 9 (some 10) hHeld _ ?_;try go_frame
  refine wpAnyH_done (by kernel_rfl) ?_ _
  have hbW:=hbW.trans (bq.mono hbW.size)
  have r1:=Ec bq r1
  have v0:=Ec bq v0
  have v1:=Ec bq v1
  have v2:=Ec bq v2
  clear bel bq y0 r2 r7 ck1
  go_wp2_with fail
  refine (Zm _ _ _ _).mono ?_
  rintro e w9 ⟨rfl,rfl⟩
  rw [HIN.out]
  go_wp2
  go_ret
  exact ⟨Zd HX.out.symm,by first|exact hbW|(rw [←hW0];exact hbW)⟩
theorem fits_6 (vD:Value) (l:List RM) (k:Nat) (xn:Int) (nb ni:Nat) (Ax Ay:Option Addr) (cx cy g o:Nat) (B:Nat) (w:World) (h:Qz w B vD l) (hB:B≤w.heap.size) (ok:∀r∈l,r.d.ok) (sm:∀r∈l,r.d.small 1048576) (hkl:k < l.length) (hk:Zp (l.map RM.d) l[k].d=true)
  (p0':w.cell? ⟨g,o,none⟩=some (.int .i64 xn)) (p1':w.cell? ⟨g,o+1,none⟩=some (.slice Ax nb cx)) (p2':w.cell? ⟨g,o+2,none⟩=some (.slice Ay ni cy)) (hbl:nb≤4194304) (hil:ni≤4194304) (q:l[k].d.kind=6):
  Calls prog 78 #[.agg #[vD], .int .i64 k, .pointer (some ⟨g,o,none⟩)] w fun e w'=> e= .returned (.bool (Jr (l.map RM.d) l[k].d xn nb ni))∧Below w.heap.size w w':=by
 have HO:=Fs ((Tc (D:=l.map RM.d) (n:=xn) (nb:=nb) (ni:=ni) (show l[k].d.kind≠7 by omega)).trans (own_6 q))
 obtain ⟨b,off,A1,c1,A2,c2,A3,c3,A4,c4,eA,hbB,e1,e2,e3,e4,m1,m2,m3,m4,hcell⟩:∃b off A1 c1 A2 c2 A3 c3 A4 c4,(∃A c,vD= .slice A l.length c∧A=some ⟨b,off,none⟩∧c≤maxLen∧l.length≤c)∧b < B∧l[k].vb= .slice A1 l[k].d.bytes.length c1∧l[k].vn= .slice A2 l[k].d.names.length c2∧l[k].vt= .slice A3 l[k].d.tags.length c3∧l[k].vk= .slice A4 l[k].d.kids.length c4∧
   l[k].d.bytes.length≤maxLen∧l[k].d.names.length≤maxLen∧l[k].d.tags.length≤maxLen∧l[k].d.kids.length≤maxLen∧(∀W:World,(∀b o,b < B→W.cell? ⟨b,o,none⟩=w.cell? ⟨b,o,none⟩)→W.cell? ⟨b,off+k*8,none⟩=some (.string l[k].d.name)∧W.cell? ⟨b,off+k*8+1,none⟩=some (.int .i64 l[k].d.kind)∧
   W.cell? ⟨b,off+k*8+2,none⟩=some (.int .i64 l[k].d.size)∧W.cell? ⟨b,off+k*8+3,none⟩=some (.bool l[k].d.little)∧W.cell? ⟨b,off+k*8+4,none⟩=some (.slice A1 l[k].d.bytes.length c1)∧
   W.cell? ⟨b,off+k*8+5,none⟩=some (.slice A2 l[k].d.names.length c2)∧W.cell? ⟨b,off+k*8+6,none⟩=some (.slice A3 l[k].d.tags.length c3)∧W.cell? ⟨b,off+k*8+7,none⟩=some (.slice A4 l[k].d.kids.length c4)):=by
  obtain ⟨A,c,rfl,h1,h2, -⟩:=h.open_
  obtain ⟨b,off,A1,c1,A2,c2,A3,c3,A4,c4,eA,r⟩:=Zw h k hkl
  exact ⟨b,off,A1,c1,A2,c2,A3,c3,A4,c4,⟨A,c,rfl,eA,h2,h1⟩,r⟩
 obtain ⟨A,c,rfl,rfl,hm,hc⟩:=eA
 unfold maxLen at hm
 obtain ⟨W0,hW0⟩:∃W0,W0=w.alloc (.cells #[.slice (some ⟨b,off,none⟩) l.length c] 26):=⟨_,rfl⟩
 have hbW:Below w.heap.size w W0:=by rw [hW0];exact (Fv w.heap.size w).alloc (Fu _) _
 have y0:W0.cell? ⟨w.heap.size,0,none⟩=some (.slice (some ⟨b,off,none⟩) l.length c):=by rw [hW0];simp [go_sem]
 obtain ⟨-,r1,r2, -, -, -, -,r7⟩:=hcell W0 (Zu hbW hB)
 have v0:=Ec hbW p0'
 have v1:=Ec hbW p1'
 have v2:=Ec hbW p2'
 rw [q] at r1
 clear h e1 e2 e3 e4 m1 m2 m3 m4 hcell p0' p1' p2' ok sm hk
 generalize l[k]=r at*
 generalize r.d=d at*
 have R:=Ft r1 (Ft r2 (Ft r7 (Ft v0 (Ft v1 v2))))
 rw [hW0] at R
 obtain ⟨w1',w2',w7',z0',z1',z2'⟩:=R
 by_cases p0:ni=d.kids.length
 ·subst p0
  by_cases p1:xn=0
  ·subst p1
   by_cases p2:nb=0
   ·subst p2
    have HX:=Fs (show Jr (l.map RM.d) d 0 0 d.kids.length=true by rw [HO.out];simp)
    go_enter func78,ntmps78
    go_wp2_with fail
    refine (Zm _ _ _ _).mono ?_
    rintro e w9 ⟨rfl,rfl⟩
    rw [Xb]
    go_wp2
    go_ret
    exact ⟨Zd HX.out.symm,by first|exact hbW|(rw [←hW0];exact hbW)⟩
   ·have HX:=Fs (show Jr (l.map RM.d) d 0 nb d.kids.length=false by rw [HO.out];simp [p2])
    have f2:decide ((nb:Int)≤0)=false:=Fx (by omega)
    have g2:decide (nb=0)=false:=Fx p2
    have h2:(nb=0)=False:=eq_false p2
    clear p2
    go_enter func78,ntmps78
    go_wp2_with fail
    refine (Zm _ _ _ _).mono ?_
    rintro e w9 ⟨rfl,rfl⟩
    rw [Xb]
    go_wp2
    go_ret
    exact ⟨Zd HX.out.symm,by first|exact hbW|(rw [←hW0];exact hbW)⟩
  ·have HX:=Fs (show Jr (l.map RM.d) d xn nb d.kids.length=false by rw [HO.out];simp [p1])
   have HIN:=Fs (Pg p1)
   clear p1
   go_enter func78,ntmps78
   go_wp2_with fail
   refine (Zm _ _ _ _).mono ?_
   rintro e w9 ⟨rfl,rfl⟩
   rw [HIN.out]
   go_wp2
   go_ret
   exact ⟨Zd HX.out.symm,by first|exact hbW|(rw [←hW0];exact hbW)⟩
 ·have HX:=Fs (show Jr (l.map RM.d) d xn nb ni=false by rw [HO.out];simp [p0])
  have f0:((ni:Int) !=(d.kids.length:Int))=true:=by rw [bne_iff_ne];omega
  have g0:(ni !=d.kids.length)=true:=by rw [bne_iff_ne];exact p0
  clear p0
  go_enter func78,ntmps78
  go_wp2_with fail
  go_ret
  exact ⟨Zd HX.out.symm,by first|exact hbW|(rw [←hW0];exact hbW)⟩
theorem fits_7 (vD:Value) (l:List RM) (k:Nat) (xn:Int) (nb ni:Nat) (Ax Ay:Option Addr) (cx cy g o:Nat) (B:Nat) (w:World) (h:Qz w B vD l) (hB:B≤w.heap.size) (ok:∀r∈l,r.d.ok) (sm:∀r∈l,r.d.small 1048576) (hkl:k < l.length) (hk:Zp (l.map RM.d) l[k].d=true)
  (p0':w.cell? ⟨g,o,none⟩=some (.int .i64 xn)) (p1':w.cell? ⟨g,o+1,none⟩=some (.slice Ax nb cx)) (p2':w.cell? ⟨g,o+2,none⟩=some (.slice Ay ni cy)) (hbl:nb≤4194304) (hil:ni≤4194304) (q:l[k].d.kind=7):
  Calls prog 78 #[.agg #[vD], .int .i64 k, .pointer (some ⟨g,o,none⟩)] w fun e w'=> e= .returned (.bool (Jr (l.map RM.d) l[k].d xn nb ni))∧Below w.heap.size w w':=by
 have hLIM:∀W i,Below w.heap.size w W→Qa i→Calls prog 90 #[.agg #[vD], .int .i64 i] W fun e w'=> e= .returned (.int .i64 (Zr (l.map RM.d) i))∧Below W.heap.size W w':=fun W i hb hi=> Xc vD l i B W (h.below (hb.mono hB)) (by have:=hb.size;omega) hi ok
 have HLIM:=Fs hLIM
 clear hLIM
 have hkl2:=Lh hk q
 have HO:=Fs (fit_7 (D:=l.map RM.d) (n:=xn) (nb:=nb) (ni:=ni) q)
 obtain ⟨b,off,A1,c1,A2,c2,A3,c3,A4,c4,eA,hbB,e1,e2,e3,e4,m1,m2,m3,m4,hcell⟩:∃b off A1 c1 A2 c2 A3 c3 A4 c4,(∃A c,vD= .slice A l.length c∧A=some ⟨b,off,none⟩∧c≤maxLen∧l.length≤c)∧b < B∧l[k].vb= .slice A1 l[k].d.bytes.length c1∧l[k].vn= .slice A2 l[k].d.names.length c2∧l[k].vt= .slice A3 l[k].d.tags.length c3∧l[k].vk= .slice A4 l[k].d.kids.length c4∧
   l[k].d.bytes.length≤maxLen∧l[k].d.names.length≤maxLen∧l[k].d.tags.length≤maxLen∧l[k].d.kids.length≤maxLen∧(∀W:World,(∀b o,b < B→W.cell? ⟨b,o,none⟩=w.cell? ⟨b,o,none⟩)→W.cell? ⟨b,off+k*8,none⟩=some (.string l[k].d.name)∧W.cell? ⟨b,off+k*8+1,none⟩=some (.int .i64 l[k].d.kind)∧
   W.cell? ⟨b,off+k*8+2,none⟩=some (.int .i64 l[k].d.size)∧W.cell? ⟨b,off+k*8+3,none⟩=some (.bool l[k].d.little)∧W.cell? ⟨b,off+k*8+4,none⟩=some (.slice A1 l[k].d.bytes.length c1)∧
   W.cell? ⟨b,off+k*8+5,none⟩=some (.slice A2 l[k].d.names.length c2)∧W.cell? ⟨b,off+k*8+6,none⟩=some (.slice A3 l[k].d.tags.length c3)∧W.cell? ⟨b,off+k*8+7,none⟩=some (.slice A4 l[k].d.kids.length c4)):=by
  obtain ⟨A,c,rfl,h1,h2, -⟩:=h.open_
  obtain ⟨b,off,A1,c1,A2,c2,A3,c3,A4,c4,eA,r⟩:=Zw h k hkl
  exact ⟨b,off,A1,c1,A2,c2,A3,c3,A4,c4,⟨A,c,rfl,eA,h2,h1⟩,r⟩
 obtain ⟨A,c,rfl,rfl,hm,hc⟩:=eA
 unfold maxLen at hm
 obtain ⟨Ak,ck,ek,hck,hmk,hkc⟩:=(h.2 _ (Fw hkl)).k.one
 rw [e4] at ek
 simp only [Value.slice.injEq] at ek
 obtain ⟨rfl, -,rfl⟩:=ek
 obtain ⟨bk,fk,rfl,hbk,ck0⟩:=hkc 0 (by omega)
 rw [←Jb l[k].d 0 (by omega),Nat.add_zero] at ck0
 have hki:Qa (Xt l[k].d 0):=by rw [Jb l[k].d 0 (by omega)];exact (ok _ (Fw hkl)).kids _ (Fw _)
 have HLK:=Fs (fun W hb=> HLIM.out W (Xt l[k].d 0) hb hki)
 obtain ⟨lm,hlm⟩:∃lm,lm=Zr (l.map RM.d) (Xt l[k].d 0):=⟨_,rfl⟩
 rw [←hlm] at HO HLK
 have HLM:=Fs hlm
 clear hlm hki HLIM hkc hck hmk
 obtain ⟨W0,hW0⟩:∃W0,W0=w.alloc (.cells #[.slice (some ⟨b,off,none⟩) l.length c] 26):=⟨_,rfl⟩
 have hbW:Below w.heap.size w W0:=by rw [hW0];exact (Fv w.heap.size w).alloc (Fu _) _
 have y0:W0.cell? ⟨w.heap.size,0,none⟩=some (.slice (some ⟨b,off,none⟩) l.length c):=by rw [hW0];simp [go_sem]
 obtain ⟨-,r1,r2, -, -, -, -,r7⟩:=hcell W0 (Zu hbW hB)
 have v0:=Ec hbW p0'
 have v1:=Ec hbW p1'
 have v2:=Ec hbW p2'
 have ck1:=Zc ck0 (hbW.mono hB) hbk
 clear ck0
 rw [q] at r1
 clear h e1 e2 e3 e4 m1 m2 m3 m4 hcell p0' p1' p2' ok sm hk
 generalize l[k]=r at*
 generalize r.d=d at*
 have R:=Ft r1 (Ft r2 (Ft r7 (Ft v0 (Ft v1 v2))))
 rw [hW0] at R
 obtain ⟨w1',w2',w7',z0',z1',z2'⟩:=R
 generalize Xt d 0=kv at*
 have hk1:0 < d.kids.length:=by omega
 have HK2:=Fs hkl2
 clear hkl2
 by_cases p0:ni=1
 ·subst p0
  by_cases p1:Xs xn 0 lm=true
  ·by_cases p2:nb=0
   ·subst p2
    have HX:=Fs (show Jr (l.map RM.d) d xn 0 1=true by rw [HO.out];simp [p1])
    have HIN:=Fs p1
    clear p1
    go_enter func78,ntmps78
    go_wp2_with fail
    try rw [←hW0]
    try clear hW0
    try clear w1' w2' w7' z0' z1' z2'
    refine wp_region_held_drew (S:=(fun w9=> w9.cell? ⟨w.heap.size,0,none⟩=some (.slice (some ⟨b,off,none⟩) l.length c)∧w9.cell? ⟨b,off+k*8+7,none⟩=some (.slice (some ⟨bk,fk,none⟩) d.kids.length c4)∧w9.cell? ⟨bk,fk,none⟩=some (.int .i64 kv))) (by kernel_rfl) ?_ (fun hHeld=> ?_)
    ·(try dsimp only);exact ⟨y0,r7,ck1⟩
    refine Za 0 (some 73) hHeld _ ?_;try go_frame
    refine Za 1 (some 74) hHeld _ ?_;try go_frame
    refine Za 2 (some 75) hHeld _ ?_;try go_frame
    refine Za 3 (some 76) hHeld _ ?_;try go_frame
    refine Za 4 (some 77) hHeld _ ?_;try go_frame
    refine Za 5 (some 78) hHeld _ ?_;try go_frame
    refine Za 6 (some 79) hHeld _ ?_;try go_frame
    refine Zh 7 (fun K hK=> ?_)
    go_simp
    refine (HLK.out _ hbW.drew).mono ?_;rintro e w1 ⟨rfl,bel⟩;have bq:=Zb bel ((Fv W0.heap.size W0).drew)
    (try go_wp2_with fail)
    refine hK.out _ _ ?_ (fun hHeld=> ?_)
    ·(try dsimp only);exact ⟨Ec bq y0,Ec bq r7,Ec bq ck1⟩
    clear hK K
    try go_frame
    refine Za 8 (some 8) hHeld _ ?_;try go_frame
    refine Za 9 (some 10) hHeld _ ?_;try go_frame
    refine wpAnyH_done (by kernel_rfl) ?_ _
    have hbW:=hbW.trans (bq.mono hbW.size)
    have r1:=Ec bq r1
    have v0:=Ec bq v0
    have v1:=Ec bq v1
    have v2:=Ec bq v2
    clear bel bq y0 r2 r7 ck1
    go_wp2_with fail
    refine (Zm _ _ _ _).mono ?_
    rintro e w9 ⟨rfl,rfl⟩
    rw [HIN.out]
    go_wp2
    go_ret
    exact ⟨Zd HX.out.symm,by first|exact hbW|(rw [←hW0];exact hbW)⟩
   ·have HX:=Fs (show Jr (l.map RM.d) d xn nb 1=false by rw [HO.out];simp [p1,p2])
    have f2:decide ((nb:Int)≤0)=false:=Fx (by omega)
    have g2:decide (nb=0)=false:=Fx p2
    have h2:(nb=0)=False:=eq_false p2
    have HIN:=Fs p1
    clear p1
    clear p2
    go_enter func78,ntmps78
    go_wp2_with fail
    try rw [←hW0]
    try clear hW0
    try clear w1' w2' w7' z0' z1' z2'
    refine wp_region_held_drew (S:=(fun w9=> w9.cell? ⟨w.heap.size,0,none⟩=some (.slice (some ⟨b,off,none⟩) l.length c)∧w9.cell? ⟨b,off+k*8+7,none⟩=some (.slice (some ⟨bk,fk,none⟩) d.kids.length c4)∧w9.cell? ⟨bk,fk,none⟩=some (.int .i64 kv))) (by kernel_rfl) ?_ (fun hHeld=> ?_)
    ·(try dsimp only);exact ⟨y0,r7,ck1⟩
    refine Za 0 (some 73) hHeld _ ?_;try go_frame
    refine Za 1 (some 74) hHeld _ ?_;try go_frame
    refine Za 2 (some 75) hHeld _ ?_;try go_frame
    refine Za 3 (some 76) hHeld _ ?_;try go_frame
    refine Za 4 (some 77) hHeld _ ?_;try go_frame
    refine Za 5 (some 78) hHeld _ ?_;try go_frame
    refine Za 6 (some 79) hHeld _ ?_;try go_frame
    refine Zh 7 (fun K hK=> ?_)
    go_simp
    refine (HLK.out _ hbW.drew).mono ?_;rintro e w1 ⟨rfl,bel⟩;have bq:=Zb bel ((Fv W0.heap.size W0).drew)
    (try go_wp2_with fail)
    refine hK.out _ _ ?_ (fun hHeld=> ?_)
    ·(try dsimp only);exact ⟨Ec bq y0,Ec bq r7,Ec bq ck1⟩
    clear hK K
    try go_frame
    refine Za 8 (some 8) hHeld _ ?_;try go_frame
    refine Za 9 (some 10) hHeld _ ?_;try go_frame
    refine wpAnyH_done (by kernel_rfl) ?_ _
    have hbW:=hbW.trans (bq.mono hbW.size)
    have r1:=Ec bq r1
    have v0:=Ec bq v0
    have v1:=Ec bq v1
    have v2:=Ec bq v2
    clear bel bq y0 r2 r7 ck1
    go_wp2_with fail
    refine (Zm _ _ _ _).mono ?_
    rintro e w9 ⟨rfl,rfl⟩
    rw [HIN.out]
    go_wp2
    go_ret
    exact ⟨Zd HX.out.symm,by first|exact hbW|(rw [←hW0];exact hbW)⟩
  ·have HX:=Fs (show Jr (l.map RM.d) d xn nb 1=false by rw [HO.out];simp [p1])
   have HIN:=Fs (Bool.eq_false_iff.2 p1)
   clear p1
   go_enter func78,ntmps78
   go_wp2_with fail
   try rw [←hW0]
   try clear hW0
   try clear w1' w2' w7' z0' z1' z2'
   refine wp_region_held_drew (S:=(fun w9=> w9.cell? ⟨w.heap.size,0,none⟩=some (.slice (some ⟨b,off,none⟩) l.length c)∧w9.cell? ⟨b,off+k*8+7,none⟩=some (.slice (some ⟨bk,fk,none⟩) d.kids.length c4)∧w9.cell? ⟨bk,fk,none⟩=some (.int .i64 kv))) (by kernel_rfl) ?_ (fun hHeld=> ?_)
   ·(try dsimp only);exact ⟨y0,r7,ck1⟩
   refine Za 0 (some 73) hHeld _ ?_;try go_frame
   refine Za 1 (some 74) hHeld _ ?_;try go_frame
   refine Za 2 (some 75) hHeld _ ?_;try go_frame
   refine Za 3 (some 76) hHeld _ ?_;try go_frame
   refine Za 4 (some 77) hHeld _ ?_;try go_frame
   refine Za 5 (some 78) hHeld _ ?_;try go_frame
   refine Za 6 (some 79) hHeld _ ?_;try go_frame
   refine Zh 7 (fun K hK=> ?_)
   go_simp
   refine (HLK.out _ hbW.drew).mono ?_;rintro e w1 ⟨rfl,bel⟩;have bq:=Zb bel ((Fv W0.heap.size W0).drew)
   (try go_wp2_with fail)
   refine hK.out _ _ ?_ (fun hHeld=> ?_)
   ·(try dsimp only);exact ⟨Ec bq y0,Ec bq r7,Ec bq ck1⟩
   clear hK K
   try go_frame
   refine Za 8 (some 8) hHeld _ ?_;try go_frame
   refine Za 9 (some 10) hHeld _ ?_;try go_frame
   refine wpAnyH_done (by kernel_rfl) ?_ _
   have hbW:=hbW.trans (bq.mono hbW.size)
   have r1:=Ec bq r1
   have v0:=Ec bq v0
   have v1:=Ec bq v1
   have v2:=Ec bq v2
   clear bel bq y0 r2 r7 ck1
   go_wp2_with fail
   refine (Zm _ _ _ _).mono ?_
   rintro e w9 ⟨rfl,rfl⟩
   rw [HIN.out]
   go_wp2
   go_ret
   exact ⟨Zd HX.out.symm,by first|exact hbW|(rw [←hW0];exact hbW)⟩
 ·have HX:=Fs (show Jr (l.map RM.d) d xn nb ni=false by rw [HO.out];simp [p0])
  have f0:((ni:Int) !=1)=true:=by rw [bne_iff_ne];omega
  have g0:(ni !=1)=true:=by rw [bne_iff_ne];exact p0
  clear p0
  go_enter func78,ntmps78
  go_wp2_with fail
  try rw [←hW0]
  try clear hW0
  try clear w1' w2' w7' z0' z1' z2'
  refine wp_region_held_drew (S:=(fun w9=> w9.cell? ⟨w.heap.size,0,none⟩=some (.slice (some ⟨b,off,none⟩) l.length c)∧w9.cell? ⟨b,off+k*8+7,none⟩=some (.slice (some ⟨bk,fk,none⟩) d.kids.length c4)∧w9.cell? ⟨bk,fk,none⟩=some (.int .i64 kv))) (by kernel_rfl) ?_ (fun hHeld=> ?_)
  ·(try dsimp only);exact ⟨y0,r7,ck1⟩
  refine Za 0 (some 73) hHeld _ ?_;try go_frame
  refine Za 1 (some 74) hHeld _ ?_;try go_frame
  refine Za 2 (some 75) hHeld _ ?_;try go_frame
  refine Za 3 (some 76) hHeld _ ?_;try go_frame
  refine Za 4 (some 77) hHeld _ ?_;try go_frame
  refine Za 5 (some 78) hHeld _ ?_;try go_frame
  refine Za 6 (some 79) hHeld _ ?_;try go_frame
  refine Zh 7 (fun K hK=> ?_)
  go_simp
  refine (HLK.out _ hbW.drew).mono ?_;rintro e w1 ⟨rfl,bel⟩;have bq:=Zb bel ((Fv W0.heap.size W0).drew)
  (try go_wp2_with fail)
  refine hK.out _ _ ?_ (fun hHeld=> ?_)
  ·(try dsimp only);exact ⟨Ec bq y0,Ec bq r7,Ec bq ck1⟩
  clear hK K
  try go_frame
  refine Za 8 (some 8) hHeld _ ?_;try go_frame
  refine Za 9 (some 10) hHeld _ ?_;try go_frame
  refine wpAnyH_done (by kernel_rfl) ?_ _
  have hbW:=hbW.trans (bq.mono hbW.size)
  have r1:=Ec bq r1
  have v0:=Ec bq v0
  have v1:=Ec bq v1
  have v2:=Ec bq v2
  clear bel bq y0 r2 r7 ck1
  go_wp2
  go_ret
  exact ⟨Zd HX.out.symm,hbW⟩
theorem fits_8 (vD:Value) (l:List RM) (k:Nat) (xn:Int) (nb ni:Nat) (Ax Ay:Option Addr) (cx cy g o:Nat) (B:Nat) (w:World) (h:Qz w B vD l) (hB:B≤w.heap.size) (ok:∀r∈l,r.d.ok) (sm:∀r∈l,r.d.small 1048576) (hkl:k < l.length) (hk:Zp (l.map RM.d) l[k].d=true)
  (p0':w.cell? ⟨g,o,none⟩=some (.int .i64 xn)) (p1':w.cell? ⟨g,o+1,none⟩=some (.slice Ax nb cx)) (p2':w.cell? ⟨g,o+2,none⟩=some (.slice Ay ni cy)) (hbl:nb≤4194304) (hil:ni≤4194304) (q:l[k].d.kind=8):
  Calls prog 78 #[.agg #[vD], .int .i64 k, .pointer (some ⟨g,o,none⟩)] w fun e w'=> e= .returned (.bool (Jr (l.map RM.d) l[k].d xn nb ni))∧Below w.heap.size w w':=by
 have HO:=Fs ((Tc (D:=l.map RM.d) (n:=xn) (nb:=nb) (ni:=ni) (show l[k].d.kind≠7 by omega)).trans (own_8 q))
 obtain ⟨b,off,A1,c1,A2,c2,A3,c3,A4,c4,eA,hbB,e1,e2,e3,e4,m1,m2,m3,m4,hcell⟩:∃b off A1 c1 A2 c2 A3 c3 A4 c4,(∃A c,vD= .slice A l.length c∧A=some ⟨b,off,none⟩∧c≤maxLen∧l.length≤c)∧b < B∧l[k].vb= .slice A1 l[k].d.bytes.length c1∧l[k].vn= .slice A2 l[k].d.names.length c2∧l[k].vt= .slice A3 l[k].d.tags.length c3∧l[k].vk= .slice A4 l[k].d.kids.length c4∧
   l[k].d.bytes.length≤maxLen∧l[k].d.names.length≤maxLen∧l[k].d.tags.length≤maxLen∧l[k].d.kids.length≤maxLen∧(∀W:World,(∀b o,b < B→W.cell? ⟨b,o,none⟩=w.cell? ⟨b,o,none⟩)→W.cell? ⟨b,off+k*8,none⟩=some (.string l[k].d.name)∧W.cell? ⟨b,off+k*8+1,none⟩=some (.int .i64 l[k].d.kind)∧
   W.cell? ⟨b,off+k*8+2,none⟩=some (.int .i64 l[k].d.size)∧W.cell? ⟨b,off+k*8+3,none⟩=some (.bool l[k].d.little)∧W.cell? ⟨b,off+k*8+4,none⟩=some (.slice A1 l[k].d.bytes.length c1)∧
   W.cell? ⟨b,off+k*8+5,none⟩=some (.slice A2 l[k].d.names.length c2)∧W.cell? ⟨b,off+k*8+6,none⟩=some (.slice A3 l[k].d.tags.length c3)∧W.cell? ⟨b,off+k*8+7,none⟩=some (.slice A4 l[k].d.kids.length c4)):=by
  obtain ⟨A,c,rfl,h1,h2, -⟩:=h.open_
  obtain ⟨b,off,A1,c1,A2,c2,A3,c3,A4,c4,eA,r⟩:=Zw h k hkl
  exact ⟨b,off,A1,c1,A2,c2,A3,c3,A4,c4,⟨A,c,rfl,eA,h2,h1⟩,r⟩
 obtain ⟨A,c,rfl,rfl,hm,hc⟩:=eA
 unfold maxLen at hm
 obtain ⟨W0,hW0⟩:∃W0,W0=w.alloc (.cells #[.slice (some ⟨b,off,none⟩) l.length c] 26):=⟨_,rfl⟩
 have hbW:Below w.heap.size w W0:=by rw [hW0];exact (Fv w.heap.size w).alloc (Fu _) _
 have y0:W0.cell? ⟨w.heap.size,0,none⟩=some (.slice (some ⟨b,off,none⟩) l.length c):=by rw [hW0];simp [go_sem]
 obtain ⟨-,r1,r2, -, -, -, -,r7⟩:=hcell W0 (Zu hbW hB)
 have v0:=Ec hbW p0'
 have v1:=Ec hbW p1'
 have v2:=Ec hbW p2'
 rw [q] at r1
 clear h e1 e2 e3 e4 m1 m2 m3 m4 hcell p0' p1' p2' ok sm hk
 generalize l[k]=r at*
 generalize r.d=d at*
 have R:=Ft r1 (Ft r2 (Ft r7 (Ft v0 (Ft v1 v2))))
 rw [hW0] at R
 obtain ⟨w1',w2',w7',z0',z1',z2'⟩:=R
 by_cases p0:xn=0
 ·subst p0
  by_cases p1:nb=0
  ·subst p1
   by_cases p2:ni≤1
   ·have HX:=Fs (show Jr (l.map RM.d) d 0 0 ni=true by rw [HO.out];simp [p2])
    have f2:decide ((ni:Int)≤1)=true:=Fy (by omega)
    have g2:decide (ni≤1)=true:=Fy p2
    clear p2
    go_enter func78,ntmps78
    go_wp2_with fail
    refine (Zm _ _ _ _).mono ?_
    rintro e w9 ⟨rfl,rfl⟩
    rw [Xb]
    go_wp2
    go_ret
    exact ⟨Zd HX.out.symm,by first|exact hbW|(rw [←hW0];exact hbW)⟩
   ·have HX:=Fs (show Jr (l.map RM.d) d 0 0 ni=false by rw [HO.out];simp [p2])
    have f2:decide ((ni:Int)≤1)=false:=Fx (by omega)
    have g2:decide (ni≤1)=false:=Fx p2
    clear p2
    go_enter func78,ntmps78
    go_wp2_with fail
    refine (Zm _ _ _ _).mono ?_
    rintro e w9 ⟨rfl,rfl⟩
    rw [Xb]
    go_wp2
    go_ret
    exact ⟨Zd HX.out.symm,by first|exact hbW|(rw [←hW0];exact hbW)⟩
  ·have HX:=Fs (show Jr (l.map RM.d) d 0 nb ni=false by rw [HO.out];simp [p1])
   have f1:decide ((nb:Int)≤0)=false:=Fx (by omega)
   have g1:decide (nb=0)=false:=Fx p1
   have h1:(nb=0)=False:=eq_false p1
   clear p1
   go_enter func78,ntmps78
   go_wp2_with fail
   refine (Zm _ _ _ _).mono ?_
   rintro e w9 ⟨rfl,rfl⟩
   rw [Xb]
   go_wp2
   go_ret
   exact ⟨Zd HX.out.symm,by first|exact hbW|(rw [←hW0];exact hbW)⟩
 ·have HX:=Fs (show Jr (l.map RM.d) d xn nb ni=false by rw [HO.out];simp [p0])
  have HIN:=Fs (Pg p0)
  clear p0
  go_enter func78,ntmps78
  go_wp2_with fail
  refine (Zm _ _ _ _).mono ?_
  rintro e w9 ⟨rfl,rfl⟩
  rw [HIN.out]
  go_wp2
  go_ret
  exact ⟨Zd HX.out.symm,by first|exact hbW|(rw [←hW0];exact hbW)⟩
theorem fits_9 (vD:Value) (l:List RM) (k:Nat) (xn:Int) (nb ni:Nat) (Ax Ay:Option Addr) (cx cy g o:Nat) (B:Nat) (w:World) (h:Qz w B vD l) (hB:B≤w.heap.size) (ok:∀r∈l,r.d.ok) (sm:∀r∈l,r.d.small 1048576) (hkl:k < l.length) (hk:Zp (l.map RM.d) l[k].d=true)
  (p0':w.cell? ⟨g,o,none⟩=some (.int .i64 xn)) (p1':w.cell? ⟨g,o+1,none⟩=some (.slice Ax nb cx)) (p2':w.cell? ⟨g,o+2,none⟩=some (.slice Ay ni cy)) (hbl:nb≤4194304) (hil:ni≤4194304) (q:l[k].d.kind=9):
  Calls prog 78 #[.agg #[vD], .int .i64 k, .pointer (some ⟨g,o,none⟩)] w fun e w'=> e= .returned (.bool (Jr (l.map RM.d) l[k].d xn nb ni))∧Below w.heap.size w w':=by
 have HO:=Fs ((Tc (D:=l.map RM.d) (n:=xn) (nb:=nb) (ni:=ni) (show l[k].d.kind≠7 by omega)).trans (own_9 q))
 obtain ⟨b,off,A1,c1,A2,c2,A3,c3,A4,c4,eA,hbB,e1,e2,e3,e4,m1,m2,m3,m4,hcell⟩:∃b off A1 c1 A2 c2 A3 c3 A4 c4,(∃A c,vD= .slice A l.length c∧A=some ⟨b,off,none⟩∧c≤maxLen∧l.length≤c)∧b < B∧l[k].vb= .slice A1 l[k].d.bytes.length c1∧l[k].vn= .slice A2 l[k].d.names.length c2∧l[k].vt= .slice A3 l[k].d.tags.length c3∧l[k].vk= .slice A4 l[k].d.kids.length c4∧
   l[k].d.bytes.length≤maxLen∧l[k].d.names.length≤maxLen∧l[k].d.tags.length≤maxLen∧l[k].d.kids.length≤maxLen∧(∀W:World,(∀b o,b < B→W.cell? ⟨b,o,none⟩=w.cell? ⟨b,o,none⟩)→W.cell? ⟨b,off+k*8,none⟩=some (.string l[k].d.name)∧W.cell? ⟨b,off+k*8+1,none⟩=some (.int .i64 l[k].d.kind)∧
   W.cell? ⟨b,off+k*8+2,none⟩=some (.int .i64 l[k].d.size)∧W.cell? ⟨b,off+k*8+3,none⟩=some (.bool l[k].d.little)∧W.cell? ⟨b,off+k*8+4,none⟩=some (.slice A1 l[k].d.bytes.length c1)∧
   W.cell? ⟨b,off+k*8+5,none⟩=some (.slice A2 l[k].d.names.length c2)∧W.cell? ⟨b,off+k*8+6,none⟩=some (.slice A3 l[k].d.tags.length c3)∧W.cell? ⟨b,off+k*8+7,none⟩=some (.slice A4 l[k].d.kids.length c4)):=by
  obtain ⟨A,c,rfl,h1,h2, -⟩:=h.open_
  obtain ⟨b,off,A1,c1,A2,c2,A3,c3,A4,c4,eA,r⟩:=Zw h k hkl
  exact ⟨b,off,A1,c1,A2,c2,A3,c3,A4,c4,⟨A,c,rfl,eA,h2,h1⟩,r⟩
 obtain ⟨A,c,rfl,rfl,hm,hc⟩:=eA
 unfold maxLen at hm
 obtain ⟨W0,hW0⟩:∃W0,W0=w.alloc (.cells #[.slice (some ⟨b,off,none⟩) l.length c] 26):=⟨_,rfl⟩
 have hbW:Below w.heap.size w W0:=by rw [hW0];exact (Fv w.heap.size w).alloc (Fu _) _
 have y0:W0.cell? ⟨w.heap.size,0,none⟩=some (.slice (some ⟨b,off,none⟩) l.length c):=by rw [hW0];simp [go_sem]
 obtain ⟨-,r1,r2, -, -, -, -,r7⟩:=hcell W0 (Zu hbW hB)
 have v0:=Ec hbW p0'
 have v1:=Ec hbW p1'
 have v2:=Ec hbW p2'
 rw [q] at r1
 clear h e1 e2 e3 e4 m1 m2 m3 m4 hcell p0' p1' p2' ok sm hk
 generalize l[k]=r at*
 generalize r.d=d at*
 have R:=Ft r1 (Ft r2 (Ft r7 (Ft v0 (Ft v1 v2))))
 rw [hW0] at R
 obtain ⟨w1',w2',w7',z0',z1',z2'⟩:=R
 by_cases p0:ni=1
 ·subst p0
  by_cases p1:xn=0
  ·subst p1
   by_cases p2:nb=0
   ·subst p2
    have HX:=Fs (show Jr (l.map RM.d) d 0 0 1=true by rw [HO.out];simp)
    go_enter func78,ntmps78
    go_wp2_with fail
    refine (Zm _ _ _ _).mono ?_
    rintro e w9 ⟨rfl,rfl⟩
    rw [Xb]
    go_wp2
    go_ret
    exact ⟨Zd HX.out.symm,by first|exact hbW|(rw [←hW0];exact hbW)⟩
   ·have HX:=Fs (show Jr (l.map RM.d) d 0 nb 1=false by rw [HO.out];simp [p2])
    have f2:decide ((nb:Int)≤0)=false:=Fx (by omega)
    have g2:decide (nb=0)=false:=Fx p2
    have h2:(nb=0)=False:=eq_false p2
    clear p2
    go_enter func78,ntmps78
    go_wp2_with fail
    refine (Zm _ _ _ _).mono ?_
    rintro e w9 ⟨rfl,rfl⟩
    rw [Xb]
    go_wp2
    go_ret
    exact ⟨Zd HX.out.symm,by first|exact hbW|(rw [←hW0];exact hbW)⟩
  ·have HX:=Fs (show Jr (l.map RM.d) d xn nb 1=false by rw [HO.out];simp [p1])
   have HIN:=Fs (Pg p1)
   clear p1
   go_enter func78,ntmps78
   go_wp2_with fail
   refine (Zm _ _ _ _).mono ?_
   rintro e w9 ⟨rfl,rfl⟩
   rw [HIN.out]
   go_wp2
   go_ret
   exact ⟨Zd HX.out.symm,by first|exact hbW|(rw [←hW0];exact hbW)⟩
 ·have HX:=Fs (show Jr (l.map RM.d) d xn nb ni=false by rw [HO.out];simp [p0])
  have f0:((ni:Int) !=1)=true:=by rw [bne_iff_ne];omega
  have g0:(ni !=1)=true:=by rw [bne_iff_ne];exact p0
  clear p0
  go_enter func78,ntmps78
  go_wp2_with fail
  go_ret
  exact ⟨Zd HX.out.symm,by first|exact hbW|(rw [←hW0];exact hbW)⟩
theorem fits_10 (vD:Value) (l:List RM) (k:Nat) (xn:Int) (nb ni:Nat) (Ax Ay:Option Addr) (cx cy g o:Nat) (B:Nat) (w:World) (h:Qz w B vD l) (hB:B≤w.heap.size) (ok:∀r∈l,r.d.ok) (sm:∀r∈l,r.d.small 1048576) (hkl:k < l.length) (hk:Zp (l.map RM.d) l[k].d=true)
  (p0':w.cell? ⟨g,o,none⟩=some (.int .i64 xn)) (p1':w.cell? ⟨g,o+1,none⟩=some (.slice Ax nb cx)) (p2':w.cell? ⟨g,o+2,none⟩=some (.slice Ay ni cy)) (hbl:nb≤4194304) (hil:ni≤4194304) (q:l[k].d.kind=10):
  Calls prog 78 #[.agg #[vD], .int .i64 k, .pointer (some ⟨g,o,none⟩)] w fun e w'=> e= .returned (.bool (Jr (l.map RM.d) l[k].d xn nb ni))∧Below w.heap.size w w':=by
 have HO:=Fs ((Tc (D:=l.map RM.d) (n:=xn) (nb:=nb) (ni:=ni) (show l[k].d.kind≠7 by omega)).trans (own_10 q))
 obtain ⟨b,off,A1,c1,A2,c2,A3,c3,A4,c4,eA,hbB,e1,e2,e3,e4,m1,m2,m3,m4,hcell⟩:∃b off A1 c1 A2 c2 A3 c3 A4 c4,(∃A c,vD= .slice A l.length c∧A=some ⟨b,off,none⟩∧c≤maxLen∧l.length≤c)∧b < B∧l[k].vb= .slice A1 l[k].d.bytes.length c1∧l[k].vn= .slice A2 l[k].d.names.length c2∧l[k].vt= .slice A3 l[k].d.tags.length c3∧l[k].vk= .slice A4 l[k].d.kids.length c4∧
   l[k].d.bytes.length≤maxLen∧l[k].d.names.length≤maxLen∧l[k].d.tags.length≤maxLen∧l[k].d.kids.length≤maxLen∧(∀W:World,(∀b o,b < B→W.cell? ⟨b,o,none⟩=w.cell? ⟨b,o,none⟩)→W.cell? ⟨b,off+k*8,none⟩=some (.string l[k].d.name)∧W.cell? ⟨b,off+k*8+1,none⟩=some (.int .i64 l[k].d.kind)∧
   W.cell? ⟨b,off+k*8+2,none⟩=some (.int .i64 l[k].d.size)∧W.cell? ⟨b,off+k*8+3,none⟩=some (.bool l[k].d.little)∧W.cell? ⟨b,off+k*8+4,none⟩=some (.slice A1 l[k].d.bytes.length c1)∧
   W.cell? ⟨b,off+k*8+5,none⟩=some (.slice A2 l[k].d.names.length c2)∧W.cell? ⟨b,off+k*8+6,none⟩=some (.slice A3 l[k].d.tags.length c3)∧W.cell? ⟨b,off+k*8+7,none⟩=some (.slice A4 l[k].d.kids.length c4)):=by
  obtain ⟨A,c,rfl,h1,h2, -⟩:=h.open_
  obtain ⟨b,off,A1,c1,A2,c2,A3,c3,A4,c4,eA,r⟩:=Zw h k hkl
  exact ⟨b,off,A1,c1,A2,c2,A3,c3,A4,c4,⟨A,c,rfl,eA,h2,h1⟩,r⟩
 obtain ⟨A,c,rfl,rfl,hm,hc⟩:=eA
 unfold maxLen at hm
 obtain ⟨W0,hW0⟩:∃W0,W0=w.alloc (.cells #[.slice (some ⟨b,off,none⟩) l.length c] 26):=⟨_,rfl⟩
 have hbW:Below w.heap.size w W0:=by rw [hW0];exact (Fv w.heap.size w).alloc (Fu _) _
 have y0:W0.cell? ⟨w.heap.size,0,none⟩=some (.slice (some ⟨b,off,none⟩) l.length c):=by rw [hW0];simp [go_sem]
 obtain ⟨-,r1,r2, -, -, -, -,r7⟩:=hcell W0 (Zu hbW hB)
 have v0:=Ec hbW p0'
 have v1:=Ec hbW p1'
 have v2:=Ec hbW p2'
 rw [q] at r1
 clear h e1 e2 e3 e4 m1 m2 m3 m4 hcell p0' p1' p2' ok sm hk
 generalize l[k]=r at*
 generalize r.d=d at*
 have R:=Ft r1 (Ft r2 (Ft r7 (Ft v0 (Ft v1 v2))))
 rw [hW0] at R
 obtain ⟨w1',w2',w7',z0',z1',z2'⟩:=R
 by_cases p0:xn=0
 ·subst p0
  by_cases p1:nb≤400
  ·by_cases p2:ni=0
   ·subst p2
    have HX:=Fs (show Jr (l.map RM.d) d 0 nb 0=true by rw [HO.out];simp [p1])
    have f1:decide ((nb:Int)≤400)=true:=Fy (by omega)
    have g1:decide (nb≤400)=true:=Fy p1
    clear p1
    go_enter func78,ntmps78
    go_wp2_with fail
    refine (Zm _ _ _ _).mono ?_
    rintro e w9 ⟨rfl,rfl⟩
    rw [Xb]
    go_wp2
    go_ret
    exact ⟨Zd HX.out.symm,by first|exact hbW|(rw [←hW0];exact hbW)⟩
   ·have HX:=Fs (show Jr (l.map RM.d) d 0 nb ni=false by rw [HO.out];simp [p1,p2])
    have f1:decide ((nb:Int)≤400)=true:=Fy (by omega)
    have g1:decide (nb≤400)=true:=Fy p1
    have f2:decide ((ni:Int)≤0)=false:=Fx (by omega)
    have g2:decide (ni=0)=false:=Fx p2
    have h2:(ni=0)=False:=eq_false p2
    clear p1 p2
    go_enter func78,ntmps78
    go_wp2_with fail
    refine (Zm _ _ _ _).mono ?_
    rintro e w9 ⟨rfl,rfl⟩
    rw [Xb]
    go_wp2
    go_ret
    exact ⟨Zd HX.out.symm,by first|exact hbW|(rw [←hW0];exact hbW)⟩
  ·have HX:=Fs (show Jr (l.map RM.d) d 0 nb ni=false by rw [HO.out];simp [p1])
   have f1:decide ((nb:Int)≤400)=false:=Fx (by omega)
   have g1:decide (nb≤400)=false:=Fx p1
   clear p1
   go_enter func78,ntmps78
   go_wp2_with fail
   refine (Zm _ _ _ _).mono ?_
   rintro e w9 ⟨rfl,rfl⟩
   rw [Xb]
   go_wp2
   go_ret
   exact ⟨Zd HX.out.symm,by first|exact hbW|(rw [←hW0];exact hbW)⟩
 ·have HX:=Fs (show Jr (l.map RM.d) d xn nb ni=false by rw [HO.out];simp [p0])
  have HIN:=Fs (Pg p0)
  clear p0
  go_enter func78,ntmps78
  go_wp2_with fail
  refine (Zm _ _ _ _).mono ?_
  rintro e w9 ⟨rfl,rfl⟩
  rw [HIN.out]
  go_wp2
  go_ret
  exact ⟨Zd HX.out.symm,by first|exact hbW|(rw [←hW0];exact hbW)⟩
theorem fits_any (vD:Value) (l:List RM) (k:Nat) (xn:Int) (nb ni:Nat) (Ax Ay:Option Addr) (cx cy g o:Nat) (B:Nat) (w:World) (h:Qz w B vD l) (hB:B≤w.heap.size) (ok:∀r∈l,r.d.ok) (sm:∀r∈l,r.d.small 1048576) (hkl:k < l.length) (hk:Zp (l.map RM.d) l[k].d=true)
  (p0':w.cell? ⟨g,o,none⟩=some (.int .i64 xn)) (p1':w.cell? ⟨g,o+1,none⟩=some (.slice Ax nb cx)) (p2':w.cell? ⟨g,o+2,none⟩=some (.slice Ay ni cy)) (hbl:nb≤4194304) (hil:ni≤4194304):
  Calls prog 78 #[.agg #[vD], .int .i64 k, .pointer (some ⟨g,o,none⟩)] w fun e w'=> e= .returned (.bool (Jr (l.map RM.d) l[k].d xn nb ni))∧Below w.heap.size w w':=by
 rcases Ok hk with q|q|q|q|q|q|q|q|q|q
 ·exact fits_1 vD l k xn nb ni Ax Ay cx cy g o B w h hB ok sm hkl hk p0' p1' p2' hbl hil q
 ·exact fits_2 vD l k xn nb ni Ax Ay cx cy g o B w h hB ok sm hkl hk p0' p1' p2' hbl hil q
 ·exact fits_3 vD l k xn nb ni Ax Ay cx cy g o B w h hB ok sm hkl hk p0' p1' p2' hbl hil q
 ·exact fits_4 vD l k xn nb ni Ax Ay cx cy g o B w h hB ok sm hkl hk p0' p1' p2' hbl hil q
 ·exact fits_5 vD l k xn nb ni Ax Ay cx cy g o B w h hB ok sm hkl hk p0' p1' p2' hbl hil q
 ·exact fits_6 vD l k xn nb ni Ax Ay cx cy g o B w h hB ok sm hkl hk p0' p1' p2' hbl hil q
 ·exact fits_7 vD l k xn nb ni Ax Ay cx cy g o B w h hB ok sm hkl hk p0' p1' p2' hbl hil q
 ·exact fits_8 vD l k xn nb ni Ax Ay cx cy g o B w h hB ok sm hkl hk p0' p1' p2' hbl hil q
 ·exact fits_9 vD l k xn nb ni Ax Ay cx cy g o B w h hB ok sm hkl hk p0' p1' p2' hbl hil q
 ·exact fits_10 vD l k xn nb ni Ax Ay cx cy g o B w h hB ok sm hkl hk p0' p1' p2' hbl hil q
end Go.Proofs.YteldgdelmaeokaaGreatDoor
