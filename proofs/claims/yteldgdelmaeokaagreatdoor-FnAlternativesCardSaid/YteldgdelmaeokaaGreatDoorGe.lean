/- The walk of validKind, kind by kind. Conditions: the description and the rule read as their data. -/
import Derived.Test.YteldgdelmaeokaaGreatDoorGd
import Derived.WalkSpells
import Derived.WalkLawsBesides
import Derived.Deep.RegionHeld3
set_option linter.unusedSimpArgs false
set_option linter.unusedVariables false
set_option maxHeartbeats 4000000
set_option maxRecDepth 100000
namespace Go.Proofs.YteldgdelmaeokaaGreatDoor
open Go.Proofs.Tryz Go.RowKit
theorem validKind_1 (v:Value) (l:List RM) (r:RM) (B:Nat) (w:World) (h:Qz w B v l) (hB:B≤w.heap.size) (ok:∀r∈l,r.d.ok) (hr:r.rd w B) (hk:r.d.ok) (hsm:r.d.small 1048576) (hkd:r.d.kind=1):
  Calls prog 96 #[.agg #[v],Ja r] w fun e w'=> e= .returned (.bool (Zp (l.map RM.d) r.d))∧Below w.heap.size w w':=by
 have hSH:∀W,Below w.heap.size w W→Calls prog 103 #[Ja r, .bool true, .bool false, .bool false, .bool false, .int .i64 0] W fun e w'=> e= .returned (.bool (Zg r.d true false false false 0))∧Below W.heap.size W w':=fun W hb=> Lz r B _ W (hr.below (hb.mono hB))
 have hX:(Zp (l.map RM.d) r.d)=(Zg r.d true false false false 0 && (Xs r.d.size 1 4 && (!r.d.little||decide (1 < r.d.size)))):=by
  unfold Zp
  rw [hkd]
  simp [Bool.and_assoc,Bool.and_comm,Bool.and_left_comm]
 have HX:=Fs hX
 clear hX
 generalize hsh0:Zg r.d true false false false 0=sh at*
 clear hsh0
 obtain ⟨⟨name,kind,size,little,bytes,names,tags,kids⟩,vb,vn,vt,vk⟩:=r
 have h1:Xu w B vb bytes:=hr.b
 have h2:Va w B vn names:=hr.n
 have h3:Yt w B vt tags:=hr.t
 have h4:Yt w B vk kids:=hr.k
 have hkn:∀s∈names,s.size≤maxLen:=hk.names
 have hkt:∀a∈tags,Qa a:=hk.tags
 have hkk:∀a∈kids,Qa a:=hk.kids
 obtain ⟨z0,z1,z2,z3,z4,z5⟩:=hsm
 simp only at z0 z1 z2 z3 z4 z5
 obtain ⟨Ad,cd,rfl, -⟩:=h.open_
 obtain ⟨Ab,cb,rfl,hb1,hb2,x1⟩:=h1.open_
 obtain ⟨An,cn,rfl,hn1,hn2,x2⟩:=h2.one
 obtain ⟨At,ct,rfl,ht1,ht2,x3⟩:=h3.one
 obtain ⟨Ak,ck,rfl,hk1,hk2,x4⟩:=h4.one
 simp only at hkd HX
 subst hkd
 unfold Ja at hSH ⊢
 simp only at hSH ⊢
 obtain ⟨W0,hW0,b0,cD,c0,c1,c2,c3,c4,c5,c6,c7,hz⟩:=Vu w (.slice Ad l.length cd) (.string name) (.int .i64 1) (.int .i64 size) (.bool little) (.slice Ab bytes.length cb) (.slice An names.length cn) (.slice At tags.length ct) (.slice Ak kids.length ck)
 have HW0:=Fs hW0
 clear hW0
 clear hr hk h1 h2 h3 h4 x2 x3 h x4 x1
 cases sh
 ·have HF:=Fs (HX.out.trans (Bool.false_and _))
  have HSH:=Fs hSH
  clear hSH
  go_enter func96,ntmps96
  go_wp2_with fail
  rw [HW0.out]
  refine (HSH.out _ b0).mono ?_
  rintro e w1 ⟨rfl,bel⟩
  have b1:=Zb bel b0
  have c0:=Ec bel c0
  have c1:=Ec bel c1
  have c2:=Ec bel c2
  have c3:=Ec bel c3
  have c4:=Ec bel c4
  have c5:=Ec bel c5
  have c6:=Ec bel c6
  have c7:=Ec bel c7
  have cD:=Ec bel cD
  clear bel
  go_wp2
  go_ret
  exact ⟨Zd HF.out.symm,b1⟩
 ·cases hin:Xs size 1 4
  ·have HF:=Fs (HX.out.trans (show _=false by simp only [hin,Bool.false_and,Bool.and_false]))
   have HI:=Fs hin
   clear hin
   have HSH:=Fs hSH
   clear hSH
   go_enter func96,ntmps96
   go_wp2_with fail
   rw [HW0.out]
   refine (HSH.out _ b0).mono ?_
   rintro e w1 ⟨rfl,bel⟩
   have b1:=Zb bel b0
   have c0:=Ec bel c0
   have c1:=Ec bel c1
   have c2:=Ec bel c2
   have c3:=Ec bel c3
   have c4:=Ec bel c4
   have c5:=Ec bel c5
   have c6:=Ec bel c6
   have c7:=Ec bel c7
   have cD:=Ec bel cD
   clear bel
   go_wp2_with (go_at_call 26;refine (Zm _ _ _ _).mono ?_;rintro e w1 ⟨rfl,rfl⟩;rw [HI.out])
   go_ret
   exact ⟨Zd HF.out.symm,b1⟩
  ·cases little
   ·have HF:=Fs (HX.out.trans (show _=true by rw [hin];rfl))
    have HI:=Fs hin
    clear hin
    have HSH:=Fs hSH
    clear hSH
    go_enter func96,ntmps96
    go_wp2_with fail
    rw [HW0.out]
    refine (HSH.out _ b0).mono ?_
    rintro e w1 ⟨rfl,bel⟩
    have b1:=Zb bel b0
    have c0:=Ec bel c0
    have c1:=Ec bel c1
    have c2:=Ec bel c2
    have c3:=Ec bel c3
    have c4:=Ec bel c4
    have c5:=Ec bel c5
    have c6:=Ec bel c6
    have c7:=Ec bel c7
    have cD:=Ec bel cD
    clear bel
    go_wp2_with (go_at_call 26;refine (Zm _ _ _ _).mono ?_;rintro e w1 ⟨rfl,rfl⟩;rw [HI.out])
    go_ret
    exact ⟨Zd HF.out.symm,b1⟩
   ·have HF:=Fs (HX.out.trans (show _=decide (1 < size) by rw [hin];simp))
    have HI:=Fs hin
    clear hin
    have HSH:=Fs hSH
    clear hSH
    go_enter func96,ntmps96
    go_wp2_with fail
    rw [HW0.out]
    refine (HSH.out _ b0).mono ?_
    rintro e w1 ⟨rfl,bel⟩
    have b1:=Zb bel b0
    have c0:=Ec bel c0
    have c1:=Ec bel c1
    have c2:=Ec bel c2
    have c3:=Ec bel c3
    have c4:=Ec bel c4
    have c5:=Ec bel c5
    have c6:=Ec bel c6
    have c7:=Ec bel c7
    have cD:=Ec bel cD
    clear bel
    go_wp2_with (go_at_call 26;refine (Zm _ _ _ _).mono ?_;rintro e w1 ⟨rfl,rfl⟩;rw [HI.out])
    go_ret
    exact ⟨Zd HF.out.symm,b1⟩
theorem validKind_2 (v:Value) (l:List RM) (r:RM) (B:Nat) (w:World) (h:Qz w B v l) (hB:B≤w.heap.size) (ok:∀r∈l,r.d.ok) (hr:r.rd w B) (hk:r.d.ok) (hsm:r.d.small 1048576) (hkd:r.d.kind=2):
  Calls prog 96 #[.agg #[v],Ja r] w fun e w'=> e= .returned (.bool (Zp (l.map RM.d) r.d))∧Below w.heap.size w w':=by
 have hSH:∀W,Below w.heap.size w W→Calls prog 103 #[Ja r, .bool false, .bool true, .bool false, .bool false, .int .i64 0] W fun e w'=> e= .returned (.bool (Zg r.d false true false false 0))∧Below W.heap.size W w':=fun W hb=> Ka r B _ W (hr.below (hb.mono hB))
 have hX:(Zp (l.map RM.d) r.d)=(Zg r.d false true false false 0 && Xs r.d.bytes.length 1 16):=by
  unfold Zp
  rw [hkd]
  simp [Bool.and_assoc,Bool.and_comm,Bool.and_left_comm]
 have HX:=Fs hX
 clear hX
 generalize hsh0:Zg r.d false true false false 0=sh at*
 clear hsh0
 obtain ⟨⟨name,kind,size,little,bytes,names,tags,kids⟩,vb,vn,vt,vk⟩:=r
 have h1:Xu w B vb bytes:=hr.b
 have h2:Va w B vn names:=hr.n
 have h3:Yt w B vt tags:=hr.t
 have h4:Yt w B vk kids:=hr.k
 have hkn:∀s∈names,s.size≤maxLen:=hk.names
 have hkt:∀a∈tags,Qa a:=hk.tags
 have hkk:∀a∈kids,Qa a:=hk.kids
 obtain ⟨z0,z1,z2,z3,z4,z5⟩:=hsm
 simp only at z0 z1 z2 z3 z4 z5
 obtain ⟨Ad,cd,rfl, -⟩:=h.open_
 obtain ⟨Ab,cb,rfl,hb1,hb2,x1⟩:=h1.open_
 obtain ⟨An,cn,rfl,hn1,hn2,x2⟩:=h2.one
 obtain ⟨At,ct,rfl,ht1,ht2,x3⟩:=h3.one
 obtain ⟨Ak,ck,rfl,hk1,hk2,x4⟩:=h4.one
 simp only at hkd HX
 subst hkd
 unfold Ja at hSH ⊢
 simp only at hSH ⊢
 obtain ⟨W0,hW0,b0,cD,c0,c1,c2,c3,c4,c5,c6,c7,hz⟩:=Vu w (.slice Ad l.length cd) (.string name) (.int .i64 2) (.int .i64 size) (.bool little) (.slice Ab bytes.length cb) (.slice An names.length cn) (.slice At tags.length ct) (.slice Ak kids.length ck)
 have HW0:=Fs hW0
 clear hW0
 clear hr hk h1 h2 h3 h4 x2 x3 h x4 x1
 cases sh
 ·have HF:=Fs (HX.out.trans (Bool.false_and _))
  have HSH:=Fs hSH
  clear hSH
  go_enter func96,ntmps96
  go_wp2_with fail
  rw [HW0.out]
  refine (HSH.out _ b0).mono ?_
  rintro e w1 ⟨rfl,bel⟩
  have b1:=Zb bel b0
  have c0:=Ec bel c0
  have c1:=Ec bel c1
  have c2:=Ec bel c2
  have c3:=Ec bel c3
  have c4:=Ec bel c4
  have c5:=Ec bel c5
  have c6:=Ec bel c6
  have c7:=Ec bel c7
  have cD:=Ec bel cD
  clear bel
  go_wp2
  go_ret
  exact ⟨Zd HF.out.symm,b1⟩
 ·have HF:=Fs (HX.out.trans (Bool.true_and _))
  have HSH:=Fs hSH
  clear hSH
  go_enter func96,ntmps96
  go_wp2_with fail
  rw [HW0.out]
  refine (HSH.out _ b0).mono ?_
  rintro e w1 ⟨rfl,bel⟩
  have b1:=Zb bel b0
  have c0:=Ec bel c0
  have c1:=Ec bel c1
  have c2:=Ec bel c2
  have c3:=Ec bel c3
  have c4:=Ec bel c4
  have c5:=Ec bel c5
  have c6:=Ec bel c6
  have c7:=Ec bel c7
  have cD:=Ec bel cD
  clear bel
  go_wp2_with (go_at_call 26;refine (Zm _ _ _ _).mono ?_;rintro e w1 ⟨rfl,rfl⟩)
  go_ret
  exact ⟨Zd HF.out.symm,b1⟩
theorem validKind_3 (v:Value) (l:List RM) (r:RM) (B:Nat) (w:World) (h:Qz w B v l) (hB:B≤w.heap.size) (ok:∀r∈l,r.d.ok) (hr:r.rd w B) (hk:r.d.ok) (hsm:r.d.small 1048576) (hkd:r.d.kind=3):
  Calls prog 96 #[.agg #[v],Ja r] w fun e w'=> e= .returned (.bool (Zp (l.map RM.d) r.d))∧Below w.heap.size w w':=by
 have hSH:∀W,Below w.heap.size w W→Calls prog 103 #[Ja r, .bool true, .bool false, .bool false, .bool false, .int .i64 0] W fun e w'=> e= .returned (.bool (Zg r.d true false false false 0))∧Below W.heap.size W w':=fun W hb=> Lz r B _ W (hr.below (hb.mono hB))
 have hX:(Zp (l.map RM.d) r.d)=(Zg r.d true false false false 0 && Xs r.d.size 1 64):=by
  unfold Zp
  rw [hkd]
  simp [Bool.and_assoc,Bool.and_comm,Bool.and_left_comm]
 have HX:=Fs hX
 clear hX
 generalize hsh0:Zg r.d true false false false 0=sh at*
 clear hsh0
 obtain ⟨⟨name,kind,size,little,bytes,names,tags,kids⟩,vb,vn,vt,vk⟩:=r
 have h1:Xu w B vb bytes:=hr.b
 have h2:Va w B vn names:=hr.n
 have h3:Yt w B vt tags:=hr.t
 have h4:Yt w B vk kids:=hr.k
 have hkn:∀s∈names,s.size≤maxLen:=hk.names
 have hkt:∀a∈tags,Qa a:=hk.tags
 have hkk:∀a∈kids,Qa a:=hk.kids
 obtain ⟨z0,z1,z2,z3,z4,z5⟩:=hsm
 simp only at z0 z1 z2 z3 z4 z5
 obtain ⟨Ad,cd,rfl, -⟩:=h.open_
 obtain ⟨Ab,cb,rfl,hb1,hb2,x1⟩:=h1.open_
 obtain ⟨An,cn,rfl,hn1,hn2,x2⟩:=h2.one
 obtain ⟨At,ct,rfl,ht1,ht2,x3⟩:=h3.one
 obtain ⟨Ak,ck,rfl,hk1,hk2,x4⟩:=h4.one
 simp only at hkd HX
 subst hkd
 unfold Ja at hSH ⊢
 simp only at hSH ⊢
 obtain ⟨W0,hW0,b0,cD,c0,c1,c2,c3,c4,c5,c6,c7,hz⟩:=Vu w (.slice Ad l.length cd) (.string name) (.int .i64 3) (.int .i64 size) (.bool little) (.slice Ab bytes.length cb) (.slice An names.length cn) (.slice At tags.length ct) (.slice Ak kids.length ck)
 have HW0:=Fs hW0
 clear hW0
 clear hr hk h1 h2 h3 h4 x2 x3 h x4 x1
 cases sh
 ·have HF:=Fs (HX.out.trans (Bool.false_and _))
  have HSH:=Fs hSH
  clear hSH
  go_enter func96,ntmps96
  go_wp2_with fail
  rw [HW0.out]
  refine (HSH.out _ b0).mono ?_
  rintro e w1 ⟨rfl,bel⟩
  have b1:=Zb bel b0
  have c0:=Ec bel c0
  have c1:=Ec bel c1
  have c2:=Ec bel c2
  have c3:=Ec bel c3
  have c4:=Ec bel c4
  have c5:=Ec bel c5
  have c6:=Ec bel c6
  have c7:=Ec bel c7
  have cD:=Ec bel cD
  clear bel
  go_wp2
  go_ret
  exact ⟨Zd HF.out.symm,b1⟩
 ·have HF:=Fs (HX.out.trans (Bool.true_and _))
  have HSH:=Fs hSH
  clear hSH
  go_enter func96,ntmps96
  go_wp2_with fail
  rw [HW0.out]
  refine (HSH.out _ b0).mono ?_
  rintro e w1 ⟨rfl,bel⟩
  have b1:=Zb bel b0
  have c0:=Ec bel c0
  have c1:=Ec bel c1
  have c2:=Ec bel c2
  have c3:=Ec bel c3
  have c4:=Ec bel c4
  have c5:=Ec bel c5
  have c6:=Ec bel c6
  have c7:=Ec bel c7
  have cD:=Ec bel cD
  clear bel
  go_wp2_with (go_at_call 26;refine (Zm _ _ _ _).mono ?_;rintro e w1 ⟨rfl,rfl⟩)
  go_ret
  exact ⟨Zd HF.out.symm,b1⟩
theorem validKind_4 (v:Value) (l:List RM) (r:RM) (B:Nat) (w:World) (h:Qz w B v l) (hB:B≤w.heap.size) (ok:∀r∈l,r.d.ok) (hr:r.rd w B) (hk:r.d.ok) (hsm:r.d.small 1048576) (hkd:r.d.kind=4):
  Calls prog 96 #[.agg #[v],Ja r] w fun e w'=> e= .returned (.bool (Zp (l.map RM.d) r.d))∧Below w.heap.size w w':=by
 have hLIM:∀W i,Below w.heap.size w W→Qa i→Calls prog 90 #[.agg #[v], .int .i64 i] W fun e w'=> e= .returned (.int .i64 (Zr (l.map RM.d) i))∧Below W.heap.size W w':=fun W i hb hi=> Xc v l i B W (h.below (hb.mono hB)) (by have:=hb.size;omega) hi ok
 have hSH:∀W,Below w.heap.size w W→Calls prog 103 #[Ja r, .bool false, .bool false, .bool false, .bool false, .int .i64 1] W fun e w'=> e= .returned (.bool (Zg r.d false false false false 1))∧Below W.heap.size W w':=fun W hb=> Rf r B _ W (hr.below (hb.mono hB))
 have hkl:Zg r.d false false false false 1=true→(r.d.kids.length:Int)=1:=Tq (by omega)
 have hX:(Zp (l.map RM.d) r.d)=(Zg r.d false false false false 1 && decide (0 < Zr (l.map RM.d) (Xt r.d 0))):=by
  unfold Zp
  rw [hkd]
  simp [Bool.and_assoc,Bool.and_comm,Bool.and_left_comm]
 have HX:=Fs hX
 clear hX
 generalize hD:l.map RM.d=D at*
 clear hD
 generalize hsh0:Zg r.d false false false false 1=sh at*
 clear hsh0
 obtain ⟨⟨name,kind,size,little,bytes,names,tags,kids⟩,vb,vn,vt,vk⟩:=r
 have h1:Xu w B vb bytes:=hr.b
 have h2:Va w B vn names:=hr.n
 have h3:Yt w B vt tags:=hr.t
 have h4:Yt w B vk kids:=hr.k
 have hkn:∀s∈names,s.size≤maxLen:=hk.names
 have hkt:∀a∈tags,Qa a:=hk.tags
 have hkk:∀a∈kids,Qa a:=hk.kids
 obtain ⟨z0,z1,z2,z3,z4,z5⟩:=hsm
 simp only at z0 z1 z2 z3 z4 z5
 obtain ⟨Ad,cd,rfl, -⟩:=h.open_
 obtain ⟨Ab,cb,rfl,hb1,hb2,x1⟩:=h1.open_
 obtain ⟨An,cn,rfl,hn1,hn2,x2⟩:=h2.one
 obtain ⟨At,ct,rfl,ht1,ht2,x3⟩:=h3.one
 obtain ⟨Ak,ck,rfl,hk1,hk2,x4⟩:=h4.one
 simp only at hkd HX
 subst hkd
 unfold Ja at hSH ⊢
 simp only at hSH hkl ⊢
 obtain ⟨W0,hW0,b0,cD,c0,c1,c2,c3,c4,c5,c6,c7,hz⟩:=Vu w (.slice Ad l.length cd) (.string name) (.int .i64 4) (.int .i64 size) (.bool little) (.slice Ab bytes.length cb) (.slice An names.length cn) (.slice At tags.length ct) (.slice Ak kids.length ck)
 have HW0:=Fs hW0
 clear hW0
 clear hr hk h1 h2 h3 h4 x2 x3 x1
 cases sh
 ·have HF:=Fs (HX.out.trans (Bool.false_and _))
  have HSH:=Fs hSH
  clear hSH x4 hkl hLIM
  go_enter func96,ntmps96
  go_wp2_with fail
  rw [HW0.out]
  refine wp_region_held_drew (S:=(fun w9=> w9.cell? ⟨w.heap.size,0,none⟩=some (.slice Ad l.length cd)∧w9.cell? ⟨w.heap.size+1,0,none⟩=some (.string name)∧w9.cell? ⟨w.heap.size+1,1,none⟩=some (.int .i64 4)∧w9.cell? ⟨w.heap.size+1,2,none⟩=some (.int .i64 size)∧w9.cell? ⟨w.heap.size+1,3,none⟩=some (.bool little)∧w9.cell? ⟨w.heap.size+1,4,none⟩=some (.slice Ab bytes.length cb)∧w9.cell? ⟨w.heap.size+1,5,none⟩=some (.slice An names.length cn)∧w9.cell? ⟨w.heap.size+1,6,none⟩=some (.slice At tags.length ct)∧w9.cell? ⟨w.heap.size+1,7,none⟩=some (.slice Ak kids.length ck))) (by kernel_rfl) ?_ (fun hHeld=> ?_)
  ·(try dsimp only);exact ⟨cD,c0,c1,c2,c3,c4,c5,c6,c7⟩
  refine Za 0 (some 47) hHeld _ ?_;try go_frame
  refine Zh 1 (fun K hK=> ?_)
  go_simp
  refine (HSH.out _ b0.drew).mono ?_;rintro e w1 ⟨rfl,bel⟩;have b1:=Zb bel b0.drew
  (try go_wp2_with fail)
  refine hK.out _ _ ?_ (fun hHeld=> ?_)
  ·(try dsimp only);exact ⟨Ec bel cD,Ec bel c0,Ec bel c1,Ec bel c2,Ec bel c3,Ec bel c4,Ec bel c5,Ec bel c6,Ec bel c7⟩
  clear hK K
  try go_frame
  refine Za 2 (some 49) hHeld _ ?_;try go_frame
  refine Zl 3 (some 50) hHeld ?_;try go_frame
  refine Zl 4 (some 51) hHeld ?_;try go_frame
  refine Zl 5 (some 52) hHeld ?_;try go_frame
  refine Zl 6 (some 53) hHeld ?_;try go_frame
  refine Zl 7 (some 54) hHeld ?_;try go_frame
  refine Zl 8 (some 55) hHeld ?_;try go_frame
  refine Zl 9 (some 56) hHeld ?_;try go_frame
  refine Za 10 (some 57) hHeld _ ?_;try go_frame
  refine Za 11 (some 4) hHeld _ ?_;try go_frame
  refine wpAnyH_done (by kernel_rfl) ?_ _
  go_wp2
  go_ret
  exact ⟨Zd HF.out.symm,b1⟩
 ·have hkl:=hkl rfl
  have hkl1:0 < kids.length:=by omega
  have hkl2:(0:Int) < kids.length:=by omega
  obtain ⟨bk,ok,rfl,hbk,ck0⟩:=x4 0 hkl1
  have hi0:=hkk _ (Fw hkl1)
  have hkid:Xt ⟨name,4,size,little,bytes,names,tags,kids⟩ 0=kids[0]:=Jb ⟨name,4,size,little,bytes,names,tags,kids⟩ 0 hkl1
  have HF:=Fs (HX.out.trans (Bool.true_and _))
  rw [hkid] at HF
  generalize kids[0]=k0 at*
  have hLM:∀W,Below w.heap.size w W→Calls prog 90 #[.agg #[.slice Ad l.length cd], .int .i64 k0] W fun e w'=> e= .returned (.int .i64 (Zr D k0))∧Below W.heap.size W w':=fun W hb=> hLIM W k0 hb hi0
  generalize Zr D k0=lim at*
  have HLM:=Fs hLM
  have HSH:=Fs hSH
  have hck:=Zz b0 (show bk < w.heap.size by omega) ck0
  clear hkk hkid hLM hi0 hSH hLIM x4 h
  go_enter func96,ntmps96
  go_wp2_with fail
  rw [HW0.out]
  refine wp_region_held_drew (S:=(fun w9=> w9.cell? ⟨w.heap.size,0,none⟩=some (.slice Ad l.length cd)∧w9.cell? ⟨w.heap.size+1,0,none⟩=some (.string name)∧w9.cell? ⟨w.heap.size+1,1,none⟩=some (.int .i64 4)∧w9.cell? ⟨w.heap.size+1,2,none⟩=some (.int .i64 size)∧w9.cell? ⟨w.heap.size+1,3,none⟩=some (.bool little)∧w9.cell? ⟨w.heap.size+1,4,none⟩=some (.slice Ab bytes.length cb)∧w9.cell? ⟨w.heap.size+1,5,none⟩=some (.slice An names.length cn)∧w9.cell? ⟨w.heap.size+1,6,none⟩=some (.slice At tags.length ct)∧w9.cell? ⟨w.heap.size+1,7,none⟩=some (.slice (some ⟨bk,ok,none⟩) kids.length ck)∧w9.cell? ⟨bk,ok,none⟩=some (.int .i64 k0))) (by kernel_rfl) ?_ (fun hHeld=> ?_)
  ·(try dsimp only);exact ⟨cD,c0,c1,c2,c3,c4,c5,c6,c7,hck⟩
  refine Za 0 (some 47) hHeld _ ?_;try go_frame
  refine Zh 1 (fun K hK=> ?_)
  go_simp
  refine (HSH.out _ b0.drew).mono ?_;rintro e w1 ⟨rfl,bel⟩;have b1:=Zb bel b0.drew
  (try go_wp2_with fail)
  refine hK.out _ _ ?_ (fun hHeld=> ?_)
  ·(try dsimp only);first|exact ⟨Ec bel2 (Ec bel cD),Ec bel2 (Ec bel c0),Ec bel2 (Ec bel c1),Ec bel2 (Ec bel c2),Ec bel2 (Ec bel c3),Ec bel2 (Ec bel c4),Ec bel2 (Ec bel c5),Ec bel2 (Ec bel c6),Ec bel2 (Ec bel c7),Ec bel2 (Ec bel hck)⟩|exact ⟨Ec bel cD,Ec bel c0,Ec bel c1,Ec bel c2,Ec bel c3,Ec bel c4,Ec bel c5,Ec bel c6,Ec bel c7,Ec bel hck⟩
  clear hK K
  try go_frame
  refine Za 2 (some 49) hHeld _ ?_;try go_frame
  refine Za 3 (some 50) hHeld _ ?_;try go_frame
  refine Za 4 (some 51) hHeld _ ?_;try go_frame
  refine Za 5 (some 52) hHeld _ ?_;try go_frame
  refine Za 6 (some 53) hHeld _ ?_;try go_frame
  refine Za 7 (some 54) hHeld _ ?_;try go_frame
  refine Zh 8 (fun K hK=> ?_)
  go_simp
  refine (HLM.out _ b1).mono ?_;rintro e w2 ⟨rfl,bel2⟩;have b2:=Zb bel2 b1
  (try go_wp2_with fail)
  refine hK.out _ _ ?_ (fun hHeld=> ?_)
  ·(try dsimp only);first|exact ⟨Ec bel2 (Ec bel cD),Ec bel2 (Ec bel c0),Ec bel2 (Ec bel c1),Ec bel2 (Ec bel c2),Ec bel2 (Ec bel c3),Ec bel2 (Ec bel c4),Ec bel2 (Ec bel c5),Ec bel2 (Ec bel c6),Ec bel2 (Ec bel c7),Ec bel2 (Ec bel hck)⟩|exact ⟨Ec bel cD,Ec bel c0,Ec bel c1,Ec bel c2,Ec bel c3,Ec bel c4,Ec bel c5,Ec bel c6,Ec bel c7,Ec bel hck⟩
  clear hK K
  try go_frame
  refine Za 9 (some 56) hHeld _ ?_;try go_frame
  refine Za 10 (some 57) hHeld _ ?_;try go_frame
  refine Za 11 (some 4) hHeld _ ?_;try go_frame
  refine wpAnyH_done (by kernel_rfl) ?_ _
  go_wp2
  go_ret
  exact ⟨Zd HF.out.symm,b2⟩
theorem validKind_5 (v:Value) (l:List RM) (r:RM) (B:Nat) (w:World) (h:Qz w B v l) (hB:B≤w.heap.size) (ok:∀r∈l,r.d.ok) (hr:r.rd w B) (hk:r.d.ok) (hsm:r.d.small 1048576) (hkd:r.d.kind=5):
  Calls prog 96 #[.agg #[v],Ja r] w fun e w'=> e= .returned (.bool (Zp (l.map RM.d) r.d))∧Below w.heap.size w w':=by
 have hLIM:∀W i,Below w.heap.size w W→Qa i→Calls prog 90 #[.agg #[v], .int .i64 i] W fun e w'=> e= .returned (.int .i64 (Zr (l.map RM.d) i))∧Below W.heap.size W w':=fun W i hb hi=> Xc v l i B W (h.below (hb.mono hB)) (by have:=hb.size;omega) hi ok
 have hSH:∀W,Below w.heap.size w W→Calls prog 103 #[Ja r, .bool false, .bool false, .bool false, .bool false, .int .i64 2] W fun e w'=> e= .returned (.bool (Zg r.d false false false false 2))∧Below W.heap.size W w':=fun W hb=> Rf r B _ W (hr.below (hb.mono hB))
 have hkl:Zg r.d false false false false 2=true→(r.d.kids.length:Int)=2:=Tq (by omega)
 have hX:(Zp (l.map RM.d) r.d)=(Zg r.d false false false false 2 && decide (0 < Zr (l.map RM.d) (Xt r.d 0))):=by
  unfold Zp
  rw [hkd]
  simp [Bool.and_assoc,Bool.and_comm,Bool.and_left_comm]
 have HX:=Fs hX
 clear hX
 generalize hD:l.map RM.d=D at*
 clear hD
 generalize hsh0:Zg r.d false false false false 2=sh at*
 clear hsh0
 obtain ⟨⟨name,kind,size,little,bytes,names,tags,kids⟩,vb,vn,vt,vk⟩:=r
 have h1:Xu w B vb bytes:=hr.b
 have h2:Va w B vn names:=hr.n
 have h3:Yt w B vt tags:=hr.t
 have h4:Yt w B vk kids:=hr.k
 have hkn:∀s∈names,s.size≤maxLen:=hk.names
 have hkt:∀a∈tags,Qa a:=hk.tags
 have hkk:∀a∈kids,Qa a:=hk.kids
 obtain ⟨z0,z1,z2,z3,z4,z5⟩:=hsm
 simp only at z0 z1 z2 z3 z4 z5
 obtain ⟨Ad,cd,rfl, -⟩:=h.open_
 obtain ⟨Ab,cb,rfl,hb1,hb2,x1⟩:=h1.open_
 obtain ⟨An,cn,rfl,hn1,hn2,x2⟩:=h2.one
 obtain ⟨At,ct,rfl,ht1,ht2,x3⟩:=h3.one
 obtain ⟨Ak,ck,rfl,hk1,hk2,x4⟩:=h4.one
 simp only at hkd HX
 subst hkd
 unfold Ja at hSH ⊢
 simp only at hSH hkl ⊢
 obtain ⟨W0,hW0,b0,cD,c0,c1,c2,c3,c4,c5,c6,c7,hz⟩:=Vu w (.slice Ad l.length cd) (.string name) (.int .i64 5) (.int .i64 size) (.bool little) (.slice Ab bytes.length cb) (.slice An names.length cn) (.slice At tags.length ct) (.slice Ak kids.length ck)
 have HW0:=Fs hW0
 clear hW0
 clear hr hk h1 h2 h3 h4 x2 x3 x1
 cases sh
 ·have HF:=Fs (HX.out.trans (Bool.false_and _))
  have HSH:=Fs hSH
  clear hSH x4 hkl hLIM
  go_enter func96,ntmps96
  go_wp2_with fail
  rw [HW0.out]
  refine wp_region_held_drew (S:=(fun w9=> w9.cell? ⟨w.heap.size,0,none⟩=some (.slice Ad l.length cd)∧w9.cell? ⟨w.heap.size+1,0,none⟩=some (.string name)∧w9.cell? ⟨w.heap.size+1,1,none⟩=some (.int .i64 5)∧w9.cell? ⟨w.heap.size+1,2,none⟩=some (.int .i64 size)∧w9.cell? ⟨w.heap.size+1,3,none⟩=some (.bool little)∧w9.cell? ⟨w.heap.size+1,4,none⟩=some (.slice Ab bytes.length cb)∧w9.cell? ⟨w.heap.size+1,5,none⟩=some (.slice An names.length cn)∧w9.cell? ⟨w.heap.size+1,6,none⟩=some (.slice At tags.length ct)∧w9.cell? ⟨w.heap.size+1,7,none⟩=some (.slice Ak kids.length ck))) (by kernel_rfl) ?_ (fun hHeld=> ?_)
  ·(try dsimp only);exact ⟨cD,c0,c1,c2,c3,c4,c5,c6,c7⟩
  refine Za 0 (some 60) hHeld _ ?_;try go_frame
  refine Zh 1 (fun K hK=> ?_)
  go_simp
  refine (HSH.out _ b0.drew).mono ?_;rintro e w1 ⟨rfl,bel⟩;have b1:=Zb bel b0.drew
  (try go_wp2_with fail)
  refine hK.out _ _ ?_ (fun hHeld=> ?_)
  ·(try dsimp only);exact ⟨Ec bel cD,Ec bel c0,Ec bel c1,Ec bel c2,Ec bel c3,Ec bel c4,Ec bel c5,Ec bel c6,Ec bel c7⟩
  clear hK K
  try go_frame
  refine Za 2 (some 62) hHeld _ ?_;try go_frame
  refine Zl 3 (some 63) hHeld ?_;try go_frame
  refine Zl 4 (some 64) hHeld ?_;try go_frame
  refine Zl 5 (some 65) hHeld ?_;try go_frame
  refine Zl 6 (some 66) hHeld ?_;try go_frame
  refine Zl 7 (some 67) hHeld ?_;try go_frame
  refine Zl 8 (some 68) hHeld ?_;try go_frame
  refine Zl 9 (some 69) hHeld ?_;try go_frame
  refine Za 10 (some 70) hHeld _ ?_;try go_frame
  refine Za 11 (some 4) hHeld _ ?_;try go_frame
  refine wpAnyH_done (by kernel_rfl) ?_ _
  go_wp2
  go_ret
  exact ⟨Zd HF.out.symm,b1⟩
 ·have hkl:=hkl rfl
  have hkl1:0 < kids.length:=by omega
  have hkl2:(0:Int) < kids.length:=by omega
  obtain ⟨bk,ok,rfl,hbk,ck0⟩:=x4 0 hkl1
  have hi0:=hkk _ (Fw hkl1)
  have hkid:Xt ⟨name,5,size,little,bytes,names,tags,kids⟩ 0=kids[0]:=Jb ⟨name,5,size,little,bytes,names,tags,kids⟩ 0 hkl1
  have HF:=Fs (HX.out.trans (Bool.true_and _))
  rw [hkid] at HF
  generalize kids[0]=k0 at*
  have hLM:∀W,Below w.heap.size w W→Calls prog 90 #[.agg #[.slice Ad l.length cd], .int .i64 k0] W fun e w'=> e= .returned (.int .i64 (Zr D k0))∧Below W.heap.size W w':=fun W hb=> hLIM W k0 hb hi0
  generalize Zr D k0=lim at*
  have HLM:=Fs hLM
  have HSH:=Fs hSH
  have hck:=Zz b0 (show bk < w.heap.size by omega) ck0
  clear hkk hkid hLM hi0 hSH hLIM x4 h
  go_enter func96,ntmps96
  go_wp2_with fail
  rw [HW0.out]
  refine wp_region_held_drew (S:=(fun w9=> w9.cell? ⟨w.heap.size,0,none⟩=some (.slice Ad l.length cd)∧w9.cell? ⟨w.heap.size+1,0,none⟩=some (.string name)∧w9.cell? ⟨w.heap.size+1,1,none⟩=some (.int .i64 5)∧w9.cell? ⟨w.heap.size+1,2,none⟩=some (.int .i64 size)∧w9.cell? ⟨w.heap.size+1,3,none⟩=some (.bool little)∧w9.cell? ⟨w.heap.size+1,4,none⟩=some (.slice Ab bytes.length cb)∧w9.cell? ⟨w.heap.size+1,5,none⟩=some (.slice An names.length cn)∧w9.cell? ⟨w.heap.size+1,6,none⟩=some (.slice At tags.length ct)∧w9.cell? ⟨w.heap.size+1,7,none⟩=some (.slice (some ⟨bk,ok,none⟩) kids.length ck)∧w9.cell? ⟨bk,ok,none⟩=some (.int .i64 k0))) (by kernel_rfl) ?_ (fun hHeld=> ?_)
  ·(try dsimp only);exact ⟨cD,c0,c1,c2,c3,c4,c5,c6,c7,hck⟩
  refine Za 0 (some 60) hHeld _ ?_;try go_frame
  refine Zh 1 (fun K hK=> ?_)
  go_simp
  refine (HSH.out _ b0.drew).mono ?_;rintro e w1 ⟨rfl,bel⟩;have b1:=Zb bel b0.drew
  (try go_wp2_with fail)
  refine hK.out _ _ ?_ (fun hHeld=> ?_)
  ·(try dsimp only);first|exact ⟨Ec bel2 (Ec bel cD),Ec bel2 (Ec bel c0),Ec bel2 (Ec bel c1),Ec bel2 (Ec bel c2),Ec bel2 (Ec bel c3),Ec bel2 (Ec bel c4),Ec bel2 (Ec bel c5),Ec bel2 (Ec bel c6),Ec bel2 (Ec bel c7),Ec bel2 (Ec bel hck)⟩|exact ⟨Ec bel cD,Ec bel c0,Ec bel c1,Ec bel c2,Ec bel c3,Ec bel c4,Ec bel c5,Ec bel c6,Ec bel c7,Ec bel hck⟩
  clear hK K
  try go_frame
  refine Za 2 (some 62) hHeld _ ?_;try go_frame
  refine Za 3 (some 63) hHeld _ ?_;try go_frame
  refine Za 4 (some 64) hHeld _ ?_;try go_frame
  refine Za 5 (some 65) hHeld _ ?_;try go_frame
  refine Za 6 (some 66) hHeld _ ?_;try go_frame
  refine Za 7 (some 67) hHeld _ ?_;try go_frame
  refine Zh 8 (fun K hK=> ?_)
  go_simp
  refine (HLM.out _ b1).mono ?_;rintro e w2 ⟨rfl,bel2⟩;have b2:=Zb bel2 b1
  (try go_wp2_with fail)
  refine hK.out _ _ ?_ (fun hHeld=> ?_)
  ·(try dsimp only);first|exact ⟨Ec bel2 (Ec bel cD),Ec bel2 (Ec bel c0),Ec bel2 (Ec bel c1),Ec bel2 (Ec bel c2),Ec bel2 (Ec bel c3),Ec bel2 (Ec bel c4),Ec bel2 (Ec bel c5),Ec bel2 (Ec bel c6),Ec bel2 (Ec bel c7),Ec bel2 (Ec bel hck)⟩|exact ⟨Ec bel cD,Ec bel c0,Ec bel c1,Ec bel c2,Ec bel c3,Ec bel c4,Ec bel c5,Ec bel c6,Ec bel c7,Ec bel hck⟩
  clear hK K
  try go_frame
  refine Za 9 (some 69) hHeld _ ?_;try go_frame
  refine Za 10 (some 70) hHeld _ ?_;try go_frame
  refine Za 11 (some 4) hHeld _ ?_;try go_frame
  refine wpAnyH_done (by kernel_rfl) ?_ _
  go_wp2
  go_ret
  exact ⟨Zd HF.out.symm,b2⟩
theorem validKind_6 (v:Value) (l:List RM) (r:RM) (B:Nat) (w:World) (h:Qz w B v l) (hB:B≤w.heap.size) (ok:∀r∈l,r.d.ok) (hr:r.rd w B) (hk:r.d.ok) (hsm:r.d.small 1048576) (hkd:r.d.kind=6):
  Calls prog 96 #[.agg #[v],Ja r] w fun e w'=> e= .returned (.bool (Zp (l.map RM.d) r.d))∧Below w.heap.size w w':=by
 have hSH:∀W,Below w.heap.size w W→Calls prog 104 #[Ja r] W fun e w'=> e= .returned (.bool (Zg r.d false false true false r.d.names.length && Jq r.d.names))∧Below W.heap.size W w':=fun W hb=> Fc r B W (by have:=hb.size;omega) (hr.below (hb.mono hB)) hk hsm
 have hX:(Zp (l.map RM.d) r.d)=(Zg r.d false false true false r.d.names.length && Jq r.d.names):=by
  unfold Zp
  rw [hkd]
  simp [Bool.and_assoc,Bool.and_comm,Bool.and_left_comm]
 have HX:=Fs hX
 clear hX
 generalize (Zg r.d false false true false r.d.names.length && Jq r.d.names)=sh at*
 obtain ⟨⟨name,kind,size,little,bytes,names,tags,kids⟩,vb,vn,vt,vk⟩:=r
 have h1:Xu w B vb bytes:=hr.b
 have h2:Va w B vn names:=hr.n
 have h3:Yt w B vt tags:=hr.t
 have h4:Yt w B vk kids:=hr.k
 have hkn:∀s∈names,s.size≤maxLen:=hk.names
 have hkt:∀a∈tags,Qa a:=hk.tags
 have hkk:∀a∈kids,Qa a:=hk.kids
 obtain ⟨z0,z1,z2,z3,z4,z5⟩:=hsm
 simp only at z0 z1 z2 z3 z4 z5
 obtain ⟨Ad,cd,rfl, -⟩:=h.open_
 obtain ⟨Ab,cb,rfl,hb1,hb2,x1⟩:=h1.open_
 obtain ⟨An,cn,rfl,hn1,hn2,x2⟩:=h2.one
 obtain ⟨At,ct,rfl,ht1,ht2,x3⟩:=h3.one
 obtain ⟨Ak,ck,rfl,hk1,hk2,x4⟩:=h4.one
 simp only at hkd HX
 subst hkd
 unfold Ja at hSH ⊢
 simp only at hSH ⊢
 obtain ⟨W0,hW0,b0,cD,c0,c1,c2,c3,c4,c5,c6,c7,hz⟩:=Vu w (.slice Ad l.length cd) (.string name) (.int .i64 6) (.int .i64 size) (.bool little) (.slice Ab bytes.length cb) (.slice An names.length cn) (.slice At tags.length ct) (.slice Ak kids.length ck)
 have HW0:=Fs hW0
 clear hW0
 clear hr hk h1 h2 h3 h4 x2 x3 h x4 x1
 have HSH:=Fs hSH
 clear hSH
 go_enter func96,ntmps96
 go_wp2_with fail
 rw [HW0.out]
 refine (HSH.out _ b0).mono ?_
 rintro e w1 ⟨rfl,bel⟩
 have b1:=Zb bel b0
 clear bel
 go_wp2
 go_ret
 exact ⟨Zd (by rw [HX.out]),b1⟩
theorem validKind_7 (v:Value) (l:List RM) (r:RM) (B:Nat) (w:World) (h:Qz w B v l) (hB:B≤w.heap.size) (ok:∀r∈l,r.d.ok) (hr:r.rd w B) (hk:r.d.ok) (hsm:r.d.small 1048576) (hkd:r.d.kind=7):
  Calls prog 96 #[.agg #[v],Ja r] w fun e w'=> e= .returned (.bool (Zp (l.map RM.d) r.d))∧Below w.heap.size w w':=by
 have hSH:∀W,Below w.heap.size w W→Calls prog 105 #[.agg #[v],Ja r] W fun e w'=> e= .returned (.bool (Zg r.d false false false true (-1) && Yu (l.map RM.d) r.d))∧Below W.heap.size W w':=fun W hb=> Kg v l r B W (h.below (hb.mono hB)) (by have:=hb.size;omega) ok (hr.below (hb.mono hB)) hk hsm
 have hX:(Zp (l.map RM.d) r.d)=(Zg r.d false false false true (-1) && Yu (l.map RM.d) r.d):=by
  unfold Zp
  rw [hkd]
  simp [Bool.and_assoc,Bool.and_comm,Bool.and_left_comm]
 have HX:=Fs hX
 clear hX
 generalize (Zg r.d false false false true (-1) && Yu (l.map RM.d) r.d)=sh at*
 obtain ⟨⟨name,kind,size,little,bytes,names,tags,kids⟩,vb,vn,vt,vk⟩:=r
 have h1:Xu w B vb bytes:=hr.b
 have h2:Va w B vn names:=hr.n
 have h3:Yt w B vt tags:=hr.t
 have h4:Yt w B vk kids:=hr.k
 have hkn:∀s∈names,s.size≤maxLen:=hk.names
 have hkt:∀a∈tags,Qa a:=hk.tags
 have hkk:∀a∈kids,Qa a:=hk.kids
 obtain ⟨z0,z1,z2,z3,z4,z5⟩:=hsm
 simp only at z0 z1 z2 z3 z4 z5
 obtain ⟨Ad,cd,rfl, -⟩:=h.open_
 obtain ⟨Ab,cb,rfl,hb1,hb2,x1⟩:=h1.open_
 obtain ⟨An,cn,rfl,hn1,hn2,x2⟩:=h2.one
 obtain ⟨At,ct,rfl,ht1,ht2,x3⟩:=h3.one
 obtain ⟨Ak,ck,rfl,hk1,hk2,x4⟩:=h4.one
 simp only at hkd HX
 subst hkd
 unfold Ja at hSH ⊢
 simp only at hSH ⊢
 obtain ⟨W0,hW0,b0,cD,c0,c1,c2,c3,c4,c5,c6,c7,hz⟩:=Vu w (.slice Ad l.length cd) (.string name) (.int .i64 7) (.int .i64 size) (.bool little) (.slice Ab bytes.length cb) (.slice An names.length cn) (.slice At tags.length ct) (.slice Ak kids.length ck)
 have HW0:=Fs hW0
 clear hW0
 clear hr hk h1 h2 h3 h4 x2 x3 h x4 x1
 have HSH:=Fs hSH
 clear hSH
 go_enter func96,ntmps96
 go_wp2_with fail
 rw [HW0.out]
 refine (HSH.out _ b0).mono ?_
 rintro e w1 ⟨rfl,bel⟩
 have b1:=Zb bel b0
 clear bel
 go_wp2
 go_ret
 exact ⟨Zd (by rw [HX.out]),b1⟩
theorem validKind_8 (v:Value) (l:List RM) (r:RM) (B:Nat) (w:World) (h:Qz w B v l) (hB:B≤w.heap.size) (ok:∀r∈l,r.d.ok) (hr:r.rd w B) (hk:r.d.ok) (hsm:r.d.small 1048576) (hkd:r.d.kind=8):
  Calls prog 96 #[.agg #[v],Ja r] w fun e w'=> e= .returned (.bool (Zp (l.map RM.d) r.d))∧Below w.heap.size w w':=by
 have hSH:∀W,Below w.heap.size w W→Calls prog 103 #[Ja r, .bool false, .bool false, .bool false, .bool false, .int .i64 1] W fun e w'=> e= .returned (.bool (Zg r.d false false false false 1))∧Below W.heap.size W w':=fun W hb=> Rf r B _ W (hr.below (hb.mono hB))
 have hX:(Zp (l.map RM.d) r.d)=(Zg r.d false false false false 1 && true):=by
  unfold Zp
  rw [hkd]
  simp [Bool.and_assoc,Bool.and_comm,Bool.and_left_comm]
 have HX:=Fs hX
 clear hX
 generalize hsh0:Zg r.d false false false false 1=sh at*
 clear hsh0
 obtain ⟨⟨name,kind,size,little,bytes,names,tags,kids⟩,vb,vn,vt,vk⟩:=r
 have h1:Xu w B vb bytes:=hr.b
 have h2:Va w B vn names:=hr.n
 have h3:Yt w B vt tags:=hr.t
 have h4:Yt w B vk kids:=hr.k
 have hkn:∀s∈names,s.size≤maxLen:=hk.names
 have hkt:∀a∈tags,Qa a:=hk.tags
 have hkk:∀a∈kids,Qa a:=hk.kids
 obtain ⟨z0,z1,z2,z3,z4,z5⟩:=hsm
 simp only at z0 z1 z2 z3 z4 z5
 obtain ⟨Ad,cd,rfl, -⟩:=h.open_
 obtain ⟨Ab,cb,rfl,hb1,hb2,x1⟩:=h1.open_
 obtain ⟨An,cn,rfl,hn1,hn2,x2⟩:=h2.one
 obtain ⟨At,ct,rfl,ht1,ht2,x3⟩:=h3.one
 obtain ⟨Ak,ck,rfl,hk1,hk2,x4⟩:=h4.one
 simp only at hkd HX
 subst hkd
 unfold Ja at hSH ⊢
 simp only at hSH ⊢
 obtain ⟨W0,hW0,b0,cD,c0,c1,c2,c3,c4,c5,c6,c7,hz⟩:=Vu w (.slice Ad l.length cd) (.string name) (.int .i64 8) (.int .i64 size) (.bool little) (.slice Ab bytes.length cb) (.slice An names.length cn) (.slice At tags.length ct) (.slice Ak kids.length ck)
 have HW0:=Fs hW0
 clear hW0
 clear hr hk h1 h2 h3 h4 x2 x3 h x4 x1
 have HSH:=Fs hSH
 clear hSH
 go_enter func96,ntmps96
 go_wp2_with fail
 rw [HW0.out]
 refine (HSH.out _ b0).mono ?_
 rintro e w1 ⟨rfl,bel⟩
 have b1:=Zb bel b0
 clear bel
 go_wp2
 go_ret
 exact ⟨Zd (by rw [HX.out];simp),b1⟩
theorem validKind_9 (v:Value) (l:List RM) (r:RM) (B:Nat) (w:World) (h:Qz w B v l) (hB:B≤w.heap.size) (ok:∀r∈l,r.d.ok) (hr:r.rd w B) (hk:r.d.ok) (hsm:r.d.small 1048576) (hkd:r.d.kind=9):
  Calls prog 96 #[.agg #[v],Ja r] w fun e w'=> e= .returned (.bool (Zp (l.map RM.d) r.d))∧Below w.heap.size w w':=by
 have hSH:∀W,Below w.heap.size w W→Calls prog 103 #[Ja r, .bool false, .bool false, .bool false, .bool false, .int .i64 1] W fun e w'=> e= .returned (.bool (Zg r.d false false false false 1))∧Below W.heap.size W w':=fun W hb=> Rf r B _ W (hr.below (hb.mono hB))
 have hX:(Zp (l.map RM.d) r.d)=(Zg r.d false false false false 1 && true):=by
  unfold Zp
  rw [hkd]
  simp [Bool.and_assoc,Bool.and_comm,Bool.and_left_comm]
 have HX:=Fs hX
 clear hX
 generalize hsh0:Zg r.d false false false false 1=sh at*
 clear hsh0
 obtain ⟨⟨name,kind,size,little,bytes,names,tags,kids⟩,vb,vn,vt,vk⟩:=r
 have h1:Xu w B vb bytes:=hr.b
 have h2:Va w B vn names:=hr.n
 have h3:Yt w B vt tags:=hr.t
 have h4:Yt w B vk kids:=hr.k
 have hkn:∀s∈names,s.size≤maxLen:=hk.names
 have hkt:∀a∈tags,Qa a:=hk.tags
 have hkk:∀a∈kids,Qa a:=hk.kids
 obtain ⟨z0,z1,z2,z3,z4,z5⟩:=hsm
 simp only at z0 z1 z2 z3 z4 z5
 obtain ⟨Ad,cd,rfl, -⟩:=h.open_
 obtain ⟨Ab,cb,rfl,hb1,hb2,x1⟩:=h1.open_
 obtain ⟨An,cn,rfl,hn1,hn2,x2⟩:=h2.one
 obtain ⟨At,ct,rfl,ht1,ht2,x3⟩:=h3.one
 obtain ⟨Ak,ck,rfl,hk1,hk2,x4⟩:=h4.one
 simp only at hkd HX
 subst hkd
 unfold Ja at hSH ⊢
 simp only at hSH ⊢
 obtain ⟨W0,hW0,b0,cD,c0,c1,c2,c3,c4,c5,c6,c7,hz⟩:=Vu w (.slice Ad l.length cd) (.string name) (.int .i64 9) (.int .i64 size) (.bool little) (.slice Ab bytes.length cb) (.slice An names.length cn) (.slice At tags.length ct) (.slice Ak kids.length ck)
 have HW0:=Fs hW0
 clear hW0
 clear hr hk h1 h2 h3 h4 x2 x3 h x4 x1
 have HSH:=Fs hSH
 clear hSH
 go_enter func96,ntmps96
 go_wp2_with fail
 rw [HW0.out]
 refine (HSH.out _ b0).mono ?_
 rintro e w1 ⟨rfl,bel⟩
 have b1:=Zb bel b0
 clear bel
 go_wp2
 go_ret
 exact ⟨Zd (by rw [HX.out];simp),b1⟩
theorem Fd (v:Value) (l:List RM) (r:RM) (B:Nat) (w:World) (h:Qz w B v l) (hB:B≤w.heap.size) (ok:∀r∈l,r.d.ok) (hr:r.rd w B) (hk:r.d.ok) (hsm:r.d.small 1048576) (hkd:r.d.kind=10):
  Calls prog 96 #[.agg #[v],Ja r] w fun e w'=> e= .returned (.bool (Zp (l.map RM.d) r.d))∧Below w.heap.size w w':=by
 have hSH:∀W,Below w.heap.size w W→Calls prog 103 #[Ja r, .bool false, .bool true, .bool false, .bool false, .int .i64 0] W fun e w'=> e= .returned (.bool (Zg r.d false true false false 0))∧Below W.heap.size W w':=fun W hb=> Ka r B _ W (hr.below (hb.mono hB))
 have hX:(Zp (l.map RM.d) r.d)=(Zg r.d false true false false 0 && (((r.d.bytes.length:Int)==1) && (r.d.bytes.head? !=some 92))):=by
  unfold Zp
  rw [hkd]
  simp [Bool.and_assoc,Bool.and_comm,Bool.and_left_comm]
 have HX:=Fs hX
 clear hX
 generalize hsh0:Zg r.d false true false false 0=sh at*
 clear hsh0
 obtain ⟨⟨name,kind,size,little,bytes,names,tags,kids⟩,vb,vn,vt,vk⟩:=r
 have h1:Xu w B vb bytes:=hr.b
 have h2:Va w B vn names:=hr.n
 have h3:Yt w B vt tags:=hr.t
 have h4:Yt w B vk kids:=hr.k
 have hkn:∀s∈names,s.size≤maxLen:=hk.names
 have hkt:∀a∈tags,Qa a:=hk.tags
 have hkk:∀a∈kids,Qa a:=hk.kids
 obtain ⟨z0,z1,z2,z3,z4,z5⟩:=hsm
 simp only at z0 z1 z2 z3 z4 z5
 obtain ⟨Ad,cd,rfl, -⟩:=h.open_
 obtain ⟨Ab,cb,rfl,hb1,hb2,x1⟩:=h1.open_
 obtain ⟨An,cn,rfl,hn1,hn2,x2⟩:=h2.one
 obtain ⟨At,ct,rfl,ht1,ht2,x3⟩:=h3.one
 obtain ⟨Ak,ck,rfl,hk1,hk2,x4⟩:=h4.one
 simp only at hkd HX
 subst hkd
 unfold Ja at hSH ⊢
 simp only at hSH ⊢
 obtain ⟨W0,hW0,b0,cD,c0,c1,c2,c3,c4,c5,c6,c7,hz⟩:=Vu w (.slice Ad l.length cd) (.string name) (.int .i64 10) (.int .i64 size) (.bool little) (.slice Ab bytes.length cb) (.slice An names.length cn) (.slice At tags.length ct) (.slice Ak kids.length ck)
 have HW0:=Fs hW0
 clear hW0
 clear hr hk h1 h2 h3 h4 x2 x3 h x4
 cases sh
 ·have HF:=Fs (HX.out.trans (Bool.false_and _))
  have HSH:=Fs hSH
  clear hSH
  go_enter func96,ntmps96
  go_wp2_with fail
  rw [HW0.out]
  refine (HSH.out _ b0).mono ?_
  rintro e w1 ⟨rfl,bel⟩
  have b1:=Zb bel b0
  have c0:=Ec bel c0
  have c1:=Ec bel c1
  have c2:=Ec bel c2
  have c3:=Ec bel c3
  have c4:=Ec bel c4
  have c5:=Ec bel c5
  have c6:=Ec bel c6
  have c7:=Ec bel c7
  have cD:=Ec bel cD
  clear bel
  go_wp2
  go_ret
  exact ⟨Zd HF.out.symm,b1⟩
 ·cases hl1:((bytes.length:Int)==1)
  ·have HF:=Fs (HX.out.trans (show _=false by simp only [hl1,Bool.false_and,Bool.and_false]))
   clear x1
   have HSH:=Fs hSH
   clear hSH
   go_enter func96,ntmps96
   go_wp2_with fail
   rw [HW0.out]
   refine (HSH.out _ b0).mono ?_
   rintro e w1 ⟨rfl,bel⟩
   have b1:=Zb bel b0
   have c0:=Ec bel c0
   have c1:=Ec bel c1
   have c2:=Ec bel c2
   have c3:=Ec bel c3
   have c4:=Ec bel c4
   have c5:=Ec bel c5
   have c6:=Ec bel c6
   have c7:=Ec bel c7
   have cD:=Ec bel cD
   clear bel
   go_wp2
   go_ret
   exact ⟨Zd HF.out.symm,b1⟩
  ·have hl2:0 < bytes.length:=by have:=beq_iff_eq.1 hl1;omega
   have hl3:(0:Int) < bytes.length:=by omega
   obtain ⟨bb,ob,rfl,hbb,hcb⟩:=x1 0 hl2
   rw [Nat.add_zero] at hcb
   have hcb0:=Zz b0 (show bb < w.heap.size by omega) hcb
   have hhd:bytes.head?=some bytes[0]:=by cases bytes with
    |nil=> simp at hl2
    |cons a t=> rfl
   have HF:=Fs (HX.out.trans (show _=(((bytes[0].toNat:Nat):Int) !=92) by
    rw [hl1,hhd]
    have h92:(some bytes[0] !=some (92:UInt8))=(((bytes[0].toNat:Nat):Int) !=92):=by
     rw [Bool.eq_iff_iff]
     simp only [bne_iff_ne,ne_eq,Option.some.injEq]
     constructor
     ·intro hne he;exact hne (UInt8.toNat_inj.1 (by show bytes[0].toNat=92;omega))
     ·intro hne he;rw [he] at hne;exact hne rfl
    rw [h92];simp))
   generalize bytes[0]=b1st at*
   clear hhd x1 hcb
   have HSH:=Fs hSH
   clear hSH
   go_enter func96,ntmps96
   go_wp2_with fail
   rw [HW0.out]
   refine (HSH.out _ b0).mono ?_
   rintro e w1 ⟨rfl,bel⟩
   have b1:=Zb bel b0
   have c0:=Ec bel c0
   have c1:=Ec bel c1
   have c2:=Ec bel c2
   have c3:=Ec bel c3
   have c4:=Ec bel c4
   have c5:=Ec bel c5
   have c6:=Ec bel c6
   have c7:=Ec bel c7
   have cD:=Ec bel cD
   have hcb1:=Ec bel hcb0
   clear bel
   go_wp2
   go_ret
   exact ⟨Zd HF.out.symm,b1⟩
theorem validKind_0 (v:Value) (l:List RM) (r:RM) (B:Nat) (w:World) (h:Qz w B v l) (hB:B≤w.heap.size) (ok:∀r∈l,r.d.ok) (hr:r.rd w B) (hk:r.d.ok) (hsm:r.d.small 1048576) (hkd:r.d.kind < 1∨10 < r.d.kind):
  Calls prog 96 #[.agg #[v],Ja r] w fun e w'=> e= .returned (.bool (Zp (l.map RM.d) r.d))∧Below w.heap.size w w':=by
 have hno:(Zp (l.map RM.d) r.d)=false:=by
  unfold Zp
  rw [if_neg (by omega),if_neg (by omega),if_neg (by omega),if_neg (by omega),if_neg (by omega),if_neg (by omega),if_neg (by omega),if_neg (by omega),if_neg (by omega)]
 have HX:=Fs hno
 clear hno
 obtain ⟨⟨name,kind,size,little,bytes,names,tags,kids⟩,vb,vn,vt,vk⟩:=r
 have h1:Xu w B vb bytes:=hr.b
 have h2:Va w B vn names:=hr.n
 have h3:Yt w B vt tags:=hr.t
 have h4:Yt w B vk kids:=hr.k
 have hkn:∀s∈names,s.size≤maxLen:=hk.names
 have hkt:∀a∈tags,Qa a:=hk.tags
 have hkk:∀a∈kids,Qa a:=hk.kids
 obtain ⟨z0,z1,z2,z3,z4,z5⟩:=hsm
 simp only at z0 z1 z2 z3 z4 z5
 obtain ⟨Ad,cd,rfl, -⟩:=h.open_
 obtain ⟨Ab,cb,rfl,hb1,hb2,x1⟩:=h1.open_
 obtain ⟨An,cn,rfl,hn1,hn2,x2⟩:=h2.one
 obtain ⟨At,ct,rfl,ht1,ht2,x3⟩:=h3.one
 obtain ⟨Ak,ck,rfl,hk1,hk2,x4⟩:=h4.one
 simp only at hkd HX
 unfold Ja
 simp only
 clear hr hk h1 h2 h3 h4 x1 x2 x3 x4 h
 have q1:(kind==1)=false:=beq_eq_false_iff_ne.2 (by omega)
 have q2:(kind==2)=false:=beq_eq_false_iff_ne.2 (by omega)
 have q3:(kind==3)=false:=beq_eq_false_iff_ne.2 (by omega)
 have q4:(kind==4)=false:=beq_eq_false_iff_ne.2 (by omega)
 have q5:(kind==5)=false:=beq_eq_false_iff_ne.2 (by omega)
 have q6:(kind==6)=false:=beq_eq_false_iff_ne.2 (by omega)
 have q7:(kind==7)=false:=beq_eq_false_iff_ne.2 (by omega)
 have q8:(kind==8)=false:=beq_eq_false_iff_ne.2 (by omega)
 have q9:(kind==9)=false:=beq_eq_false_iff_ne.2 (by omega)
 have q10:(kind==10)=false:=beq_eq_false_iff_ne.2 (by omega)
 clear hkd
 have b0:Below w.heap.size w ((w.alloc (.cells #[.slice Ad l.length cd] 26)).alloc (.cells #[.string name, .int .i64 kind, .int .i64 size, .bool little, .slice Ab bytes.length cb, .slice An names.length cn, .slice At tags.length ct, .slice Ak kids.length ck] 50)):=(((Fv _ _).alloc (Fu _) _).alloc (by simp) _)
 have cD:((w.alloc (.cells #[.slice Ad l.length cd] 26)).alloc (.cells #[.string name, .int .i64 kind, .int .i64 size, .bool little, .slice Ab bytes.length cb, .slice An names.length cn, .slice At tags.length ct, .slice Ak kids.length ck] 50)).cell? ⟨w.heap.size,0,none⟩=some (.slice Ad l.length cd):=by simp [go_sem]
 have c1:((w.alloc (.cells #[.slice Ad l.length cd] 26)).alloc (.cells #[.string name, .int .i64 kind, .int .i64 size, .bool little, .slice Ab bytes.length cb, .slice An names.length cn, .slice At tags.length ct, .slice Ak kids.length ck] 50)).cell? ⟨w.heap.size+1,1,none⟩=some (.int .i64 kind):=by simp [go_sem]
 have hz:((w.alloc (.cells #[.slice Ad l.length cd] 26)).alloc (.cells #[.string name, .int .i64 kind, .int .i64 size, .bool little, .slice Ab bytes.length cb, .slice An names.length cn, .slice At tags.length ct, .slice Ak kids.length ck] 50)).heap.size=w.heap.size+2:=by simp
 go_enter func96,ntmps96
 go_wp2
 go_ret
 exact ⟨Zd HX.out.symm,b0⟩
end Go.Proofs.YteldgdelmaeokaaGreatDoor
