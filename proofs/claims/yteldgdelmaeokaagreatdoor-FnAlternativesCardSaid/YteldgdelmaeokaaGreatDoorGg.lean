/- The walk of l9Own, kind by kind: whether the fields of a value itself fit. Conditions: the description, the rule and the value read as their data; the rule's are those of a valid one. -/
import Derived.Test.YteldgdelmaeokaaGreatDoorGf
import Derived.WalkSpells
import Derived.WalkLawsBesides
import Derived.Deep.RegionHeld3
import Derived.IntWalk
set_option linter.unusedSimpArgs false
set_option linter.unusedVariables false
set_option maxHeartbeats 4000000
set_option maxRecDepth 100000
namespace Go.Proofs.YteldgdelmaeokaaGreatDoor
open Go.Proofs.Tryz Go.RowKit
theorem Ok {D:List Zi} {r:Zi} (h:Zp D r=true):r.kind=1∨r.kind=2∨r.kind=3∨r.kind=4∨r.kind=5∨r.kind=6∨r.kind=7∨r.kind=8∨r.kind=9∨r.kind=10:=by
 by_cases hn:r.kind=1∨r.kind=2∨r.kind=3∨r.kind=4∨r.kind=5∨r.kind=6∨r.kind=7∨r.kind=8∨r.kind=9∨r.kind=10
 ·exact hn
 ·unfold Zp at h
  rw [if_neg (by omega),if_neg (by omega),if_neg (by omega),if_neg (by omega),if_neg (by omega),if_neg (by omega),if_neg (by omega),if_neg (by omega),if_neg (by omega)] at h
  cases h
theorem own_1 {D:List Zi} {r:Zi} {n:Int} {nb ni:Nat} (h:r.kind=1):Qh D r n nb ni=(Xs n 0 (Tb r.size - 1) && (decide (nb=0) && decide (ni=0))):=by unfold Qh;rw [if_pos h]
theorem own_2 {D:List Zi} {r:Zi} {n:Int} {nb ni:Nat} (h:r.kind=2):Qh D r n nb ni=(decide (n=0) && (decide (nb=0) && decide (ni=0))):=by unfold Qh;rw [if_neg (by omega),if_pos h]
theorem own_3 {D:List Zi} {r:Zi} {n:Int} {nb ni:Nat} (h:r.kind=3):Qh D r n nb ni=(decide (n=0) && (decide ((nb:Int)=r.size) && decide (ni=0))):=by unfold Qh;rw [if_neg (by omega),if_neg (by omega),if_pos h]
theorem own_4 {D:List Zi} {r:Zi} {n:Int} {nb ni:Nat} (h:r.kind=4):Qh D r n nb ni=(decide (n=0) && (decide ((nb:Int)≤min 400 (Zr D (Xt r 0))) && decide (ni=0))):=by unfold Qh;rw [if_neg (by omega),if_neg (by omega),if_neg (by omega),if_pos h]
theorem own_5 {D:List Zi} {r:Zi} {n:Int} {nb ni:Nat} (h:r.kind=5):Qh D r n nb ni=(decide (n=0) && (decide (nb=0) && decide ((ni:Int)≤min 40 (Zr D (Xt r 0))))):=by unfold Qh;rw [if_neg (by omega),if_neg (by omega),if_neg (by omega),if_neg (by omega),if_neg (by omega),if_pos h]
theorem own_6 {D:List Zi} {r:Zi} {n:Int} {nb ni:Nat} (h:r.kind=6):Qh D r n nb ni=(decide (n=0) && (decide (nb=0) && decide (ni=r.kids.length))):=by unfold Qh;rw [if_neg (by omega),if_neg (by omega),if_neg (by omega),if_neg (by omega),if_neg (by omega),if_neg (by omega),if_pos h]
theorem own_7 {D:List Zi} {r:Zi} {n:Int} {nb ni:Nat} (h:r.kind=7):Qh D r n nb ni=(decide (nb=0) && (decide (ni=1) && decide (0≤Qk r n 0))):=by unfold Qh;rw [if_neg (by omega),if_neg (by omega),if_neg (by omega),if_neg (by omega),if_neg (by omega),if_neg (by omega),if_neg (by omega),if_pos h]
theorem own_8 {D:List Zi} {r:Zi} {n:Int} {nb ni:Nat} (h:r.kind=8):Qh D r n nb ni=(decide (n=0) && (decide (nb=0) && decide (ni≤1))):=by unfold Qh;rw [if_neg (by omega),if_neg (by omega),if_neg (by omega),if_neg (by omega),if_neg (by omega),if_neg (by omega),if_neg (by omega),if_neg (by omega),if_pos h]
theorem own_9 {D:List Zi} {r:Zi} {n:Int} {nb ni:Nat} (h:r.kind=9):Qh D r n nb ni=(decide (n=0) && (decide (nb=0) && decide (ni=1))):=by unfold Qh;rw [if_neg (by omega),if_neg (by omega),if_neg (by omega),if_neg (by omega),if_neg (by omega),if_neg (by omega),if_neg (by omega),if_neg (by omega),if_neg (by omega)]
theorem own_10 {D:List Zi} {r:Zi} {n:Int} {nb ni:Nat} (h:r.kind=10):Qh D r n nb ni=(decide (n=0) && (decide (nb≤400) && decide (ni=0))):=by unfold Qh;rw [if_neg (by omega),if_neg (by omega),if_neg (by omega),if_neg (by omega),if_pos h]
theorem l9Own_1 (vD:Value) (l:List RM) (r:RM) (x:VM) (B:Nat) (w:World) (h:Qz w B vD l) (hB:B≤w.heap.size) (ok:∀r∈l,r.d.ok) (hr:r.rd w B) (hrk:r.d.ok) (sm:r.d.small 1048576) (hk:Zp (l.map RM.d) r.d=true) (hx:x.rd w B) (hbl:x.b.length≤4194304) (hil:x.items.length≤4194304) (q:r.d.kind=1):
  Calls prog 68 #[.agg #[vD],Ja r,Qs x] w fun e w'=> e= .returned (.bool (Qh (l.map RM.d) r.d x.n x.b.length x.items.length))∧Below w.heap.size w w':=by
 have hsz:1≤r.d.size∧r.d.size≤4:=by
  have h1:=hk
  unfold Zp at h1
  rw [if_pos q] at h1
  simp only [Bool.and_eq_true] at h1
  exact Jv.1 h1.2.1
 have HWR:=Fs (show IntKind.i64.wrap (Tb r.d.size - 1)=Tb r.d.size - 1 from IntWalk.i64_in _ (by unfold Tb;split <;> (try split) <;> (try split) <;> omega))
 obtain ⟨A,c,rfl,hc,hm, -⟩:=h.open_
 unfold maxLen at hm
 obtain ⟨Ab,cb,eb, -⟩:=hr.b.open_
 obtain ⟨An,cn,en, -⟩:=hr.n.one
 obtain ⟨At,ct,et, -⟩:=hr.t.one
 obtain ⟨Ak,ck,ek,hck,hmk,hkc⟩:=hr.k.one
 have s4:=sm.kids
 obtain ⟨xn,xb,xvb,xvi,L⟩:=x
 obtain ⟨Ax,cx,ex, -⟩:=hx.bytes.open_
 obtain ⟨Ay,cy,ey, -⟩:=hx.its.open_
 simp only [VM.vb_mk,VM.b_mk,VM.vi_mk,VM.items_mk,VM.n_mk] at*
 subst ex ey
 unfold Ja at*
 rw [eb,en,et,ek]
 clear eb en et ek hx h hr sm
 show Calls prog 68 #[_,_, .agg #[.int .i64 xn, .slice Ax xb.length cx, .slice Ay L.length cy]] w _
 generalize xb.length=nb at*
 generalize L.length=ni at*
 have HO:=Fs (own_1 (D:=l.map RM.d) (n:=xn) (nb:=nb) (ni:=ni) q)
 generalize r.d=d at*
 rw [q]
 obtain ⟨W0,hW0⟩:∃W0,W0=((w.alloc (.cells #[.slice A l.length c] 26)).alloc (.cells #[.string d.name, .int .i64 1, .int .i64 d.size, .bool d.little, .slice Ab d.bytes.length cb, .slice An d.names.length cn, .slice At d.tags.length ct, .slice Ak d.kids.length ck] 50)).alloc (.cells #[.int .i64 xn, .slice Ax nb cx, .slice Ay ni cy] 29):=⟨_,rfl⟩
 have hbW:Below w.heap.size w W0:=by rw [hW0];exact (((Fv w.heap.size w).alloc (Fu _) _).alloc (by simp) _).alloc (by simp;omega) _
 have y0:W0.cell? ⟨w.heap.size,0,none⟩=some (.slice A l.length c):=by rw [hW0];simp [go_sem]
 have v0:W0.cell? ⟨w.heap.size+1+1,0,none⟩=some (.int .i64 xn):=by rw [hW0];simp [go_sem]
 have v1:W0.cell? ⟨w.heap.size+1+1,1,none⟩=some (.slice Ax nb cx):=by rw [hW0];simp [go_sem]
 have v2:W0.cell? ⟨w.heap.size+1+1,2,none⟩=some (.slice Ay ni cy):=by rw [hW0];simp [go_sem]
 have u2:W0.cell? ⟨w.heap.size+1,2,none⟩=some (.int .i64 d.size):=by rw [hW0];simp [go_sem]
 have u7:W0.cell? ⟨w.heap.size+1,7,none⟩=some (.slice Ak d.kids.length ck):=by rw [hW0];simp [go_sem]
 clear hkc
 by_cases p0:Xs xn 0 (Tb d.size - 1)=true
 ·by_cases p1:nb=0
  ·subst p1
   by_cases p2:ni=0
   ·subst p2
    have HX:=Fs (show Qh (l.map RM.d) d xn 0 0=true by rw [HO.out];simp [p0])
    have HIN:=Fs p0
    clear p0
    go_enter func68,ntmps68
    go_wp2_with fail
    rw [←hW0]
    clear hW0
    refine wp_region_held_drew (S:=(fun w9=> w9.cell? ⟨w.heap.size,0,none⟩=some (.slice A l.length c)∧w9.cell? ⟨w.heap.size+1+1,0,none⟩=some (.int .i64 xn)∧w9.cell? ⟨w.heap.size+1+1,1,none⟩=some (.slice Ax 0 cx)∧w9.cell? ⟨w.heap.size+1+1,2,none⟩=some (.slice Ay 0 cy)∧w9.cell? ⟨w.heap.size+1,2,none⟩=some (.int .i64 d.size))) (by kernel_rfl) ?_ (fun hHeld=> ?_)
    ·(try dsimp only);exact ⟨y0,v0,v1,v2,u2⟩
    refine Za 0 (some 11) hHeld _ ?_;try go_frame
    refine Za 1 (some 12) hHeld _ ?_;try go_frame
    refine Za 2 (some 13) hHeld _ ?_;try go_frame
    refine Za 3 (some 14) hHeld _ ?_;try go_frame
    refine Zh 4 (fun K hK=> ?_)
    go_simp
    refine (Vs _ _ hsz.1 hsz.2).mono ?_;rintro e w1 ⟨rfl,rfl⟩
    (try go_wp2_with fail)
    refine hK.out _ _ ?_ (fun hHeld=> ?_)
    ·(try dsimp only);exact ⟨y0,v0,v1,v2,u2⟩
    clear hK K
    try go_frame
    refine Za 5 (some 16) hHeld _ ?_;try go_frame
    refine Zh 6 (fun K hK=> ?_)
    go_simp
    refine (Qi _ _ _ _).mono ?_;rintro e w1 ⟨rfl,rfl⟩;rw [HWR.out,HIN.out]
    (try go_wp2_with fail)
    refine hK.out _ _ ?_ (fun hHeld=> ?_)
    ·(try dsimp only);exact ⟨y0,v0,v1,v2,u2⟩
    clear hK K
    try go_frame
    refine Za 7 (some 18) hHeld _ ?_;try go_frame
    refine Za 8 (some 19) hHeld _ ?_;try go_frame
    refine Za 9 (some 20) hHeld _ ?_;try go_frame
    refine Za 10 (some 21) hHeld _ ?_;try go_frame
    refine Za 11 (some 22) hHeld _ ?_;try go_frame
    refine Za 12 (some 23) hHeld _ ?_;try go_frame
    refine Za 13 (some 24) hHeld _ ?_;try go_frame
    refine Za 14 (some 25) hHeld _ ?_;try go_frame
    refine Za 15 (some 26) hHeld _ ?_;try go_frame
    refine Za 16 (some 27) hHeld _ ?_;try go_frame
    refine Za 17 (some 28) hHeld _ ?_;try go_frame
    refine Za 18 (some 29) hHeld _ ?_;try go_frame
    refine Za 19 (some 6) hHeld _ ?_;try go_frame
    refine wpAnyH_done (by kernel_rfl) ?_ _
    go_wp2
    go_ret
    exact ⟨Zd HX.out.symm,hbW.drew⟩
   ·have HX:=Fs (show Qh (l.map RM.d) d xn 0 ni=false by rw [HO.out];simp [p0,p2])
    have f2:((ni:Int)==0)=false:=beq_eq_false_iff_ne.2 (by omega)
    have g2:(ni==0)=false:=beq_eq_false_iff_ne.2 p2
    have HIN:=Fs p0
    clear p0
    clear p2
    go_enter func68,ntmps68
    go_wp2_with fail
    rw [←hW0]
    clear hW0
    refine wp_region_held_drew (S:=(fun w9=> w9.cell? ⟨w.heap.size,0,none⟩=some (.slice A l.length c)∧w9.cell? ⟨w.heap.size+1+1,0,none⟩=some (.int .i64 xn)∧w9.cell? ⟨w.heap.size+1+1,1,none⟩=some (.slice Ax 0 cx)∧w9.cell? ⟨w.heap.size+1+1,2,none⟩=some (.slice Ay ni cy)∧w9.cell? ⟨w.heap.size+1,2,none⟩=some (.int .i64 d.size))) (by kernel_rfl) ?_ (fun hHeld=> ?_)
    ·(try dsimp only);exact ⟨y0,v0,v1,v2,u2⟩
    refine Za 0 (some 11) hHeld _ ?_;try go_frame
    refine Za 1 (some 12) hHeld _ ?_;try go_frame
    refine Za 2 (some 13) hHeld _ ?_;try go_frame
    refine Za 3 (some 14) hHeld _ ?_;try go_frame
    refine Zh 4 (fun K hK=> ?_)
    go_simp
    refine (Vs _ _ hsz.1 hsz.2).mono ?_;rintro e w1 ⟨rfl,rfl⟩
    (try go_wp2_with fail)
    refine hK.out _ _ ?_ (fun hHeld=> ?_)
    ·(try dsimp only);exact ⟨y0,v0,v1,v2,u2⟩
    clear hK K
    try go_frame
    refine Za 5 (some 16) hHeld _ ?_;try go_frame
    refine Zh 6 (fun K hK=> ?_)
    go_simp
    refine (Qi _ _ _ _).mono ?_;rintro e w1 ⟨rfl,rfl⟩;rw [HWR.out,HIN.out]
    (try go_wp2_with fail)
    refine hK.out _ _ ?_ (fun hHeld=> ?_)
    ·(try dsimp only);exact ⟨y0,v0,v1,v2,u2⟩
    clear hK K
    try go_frame
    refine Za 7 (some 18) hHeld _ ?_;try go_frame
    refine Za 8 (some 19) hHeld _ ?_;try go_frame
    refine Za 9 (some 20) hHeld _ ?_;try go_frame
    refine Za 10 (some 21) hHeld _ ?_;try go_frame
    refine Za 11 (some 22) hHeld _ ?_;try go_frame
    refine Za 12 (some 23) hHeld _ ?_;try go_frame
    refine Za 13 (some 24) hHeld _ ?_;try go_frame
    refine Za 14 (some 25) hHeld _ ?_;try go_frame
    refine Za 15 (some 26) hHeld _ ?_;try go_frame
    refine Za 16 (some 27) hHeld _ ?_;try go_frame
    refine Za 17 (some 28) hHeld _ ?_;try go_frame
    refine Za 18 (some 29) hHeld _ ?_;try go_frame
    refine Za 19 (some 6) hHeld _ ?_;try go_frame
    refine wpAnyH_done (by kernel_rfl) ?_ _
    go_wp2
    go_ret
    exact ⟨Zd HX.out.symm,hbW.drew⟩
  ·have HX:=Fs (show Qh (l.map RM.d) d xn nb ni=false by rw [HO.out];simp [p0,p1])
   have f1:((nb:Int)==0)=false:=beq_eq_false_iff_ne.2 (by omega)
   have g1:(nb==0)=false:=beq_eq_false_iff_ne.2 p1
   have HIN:=Fs p0
   clear p0
   clear p1
   go_enter func68,ntmps68
   go_wp2_with fail
   rw [←hW0]
   clear hW0
   refine wp_region_held_drew (S:=(fun w9=> w9.cell? ⟨w.heap.size,0,none⟩=some (.slice A l.length c)∧w9.cell? ⟨w.heap.size+1+1,0,none⟩=some (.int .i64 xn)∧w9.cell? ⟨w.heap.size+1+1,1,none⟩=some (.slice Ax nb cx)∧w9.cell? ⟨w.heap.size+1+1,2,none⟩=some (.slice Ay ni cy)∧w9.cell? ⟨w.heap.size+1,2,none⟩=some (.int .i64 d.size))) (by kernel_rfl) ?_ (fun hHeld=> ?_)
   ·(try dsimp only);exact ⟨y0,v0,v1,v2,u2⟩
   refine Za 0 (some 11) hHeld _ ?_;try go_frame
   refine Za 1 (some 12) hHeld _ ?_;try go_frame
   refine Za 2 (some 13) hHeld _ ?_;try go_frame
   refine Za 3 (some 14) hHeld _ ?_;try go_frame
   refine Zh 4 (fun K hK=> ?_)
   go_simp
   refine (Vs _ _ hsz.1 hsz.2).mono ?_;rintro e w1 ⟨rfl,rfl⟩
   (try go_wp2_with fail)
   refine hK.out _ _ ?_ (fun hHeld=> ?_)
   ·(try dsimp only);exact ⟨y0,v0,v1,v2,u2⟩
   clear hK K
   try go_frame
   refine Za 5 (some 16) hHeld _ ?_;try go_frame
   refine Zh 6 (fun K hK=> ?_)
   go_simp
   refine (Qi _ _ _ _).mono ?_;rintro e w1 ⟨rfl,rfl⟩;rw [HWR.out,HIN.out]
   (try go_wp2_with fail)
   refine hK.out _ _ ?_ (fun hHeld=> ?_)
   ·(try dsimp only);exact ⟨y0,v0,v1,v2,u2⟩
   clear hK K
   try go_frame
   refine Za 7 (some 18) hHeld _ ?_;try go_frame
   refine Za 8 (some 19) hHeld _ ?_;try go_frame
   refine Za 9 (some 20) hHeld _ ?_;try go_frame
   refine Za 10 (some 21) hHeld _ ?_;try go_frame
   refine Za 11 (some 22) hHeld _ ?_;try go_frame
   refine Za 12 (some 23) hHeld _ ?_;try go_frame
   refine Za 13 (some 24) hHeld _ ?_;try go_frame
   refine Zl 14 (some 25) hHeld ?_;try go_frame
   refine Zl 15 (some 26) hHeld ?_;try go_frame
   refine Zl 16 (some 27) hHeld ?_;try go_frame
   refine Zl 17 (some 28) hHeld ?_;try go_frame
   refine Za 18 (some 29) hHeld _ ?_;try go_frame
   refine Za 19 (some 6) hHeld _ ?_;try go_frame
   refine wpAnyH_done (by kernel_rfl) ?_ _
   go_wp2
   go_ret
   exact ⟨Zd HX.out.symm,hbW.drew⟩
 ·have HX:=Fs (show Qh (l.map RM.d) d xn nb ni=false by rw [HO.out];simp [p0])
  have HIN:=Fs (Bool.eq_false_iff.2 p0)
  clear p0
  go_enter func68,ntmps68
  go_wp2_with fail
  rw [←hW0]
  clear hW0
  refine wp_region_held_drew (S:=(fun w9=> w9.cell? ⟨w.heap.size,0,none⟩=some (.slice A l.length c)∧w9.cell? ⟨w.heap.size+1+1,0,none⟩=some (.int .i64 xn)∧w9.cell? ⟨w.heap.size+1+1,1,none⟩=some (.slice Ax nb cx)∧w9.cell? ⟨w.heap.size+1+1,2,none⟩=some (.slice Ay ni cy)∧w9.cell? ⟨w.heap.size+1,2,none⟩=some (.int .i64 d.size))) (by kernel_rfl) ?_ (fun hHeld=> ?_)
  ·(try dsimp only);exact ⟨y0,v0,v1,v2,u2⟩
  refine Za 0 (some 11) hHeld _ ?_;try go_frame
  refine Za 1 (some 12) hHeld _ ?_;try go_frame
  refine Za 2 (some 13) hHeld _ ?_;try go_frame
  refine Za 3 (some 14) hHeld _ ?_;try go_frame
  refine Zh 4 (fun K hK=> ?_)
  go_simp
  refine (Vs _ _ hsz.1 hsz.2).mono ?_;rintro e w1 ⟨rfl,rfl⟩
  (try go_wp2_with fail)
  refine hK.out _ _ ?_ (fun hHeld=> ?_)
  ·(try dsimp only);exact ⟨y0,v0,v1,v2,u2⟩
  clear hK K
  try go_frame
  refine Za 5 (some 16) hHeld _ ?_;try go_frame
  refine Zh 6 (fun K hK=> ?_)
  go_simp
  refine (Qi _ _ _ _).mono ?_;rintro e w1 ⟨rfl,rfl⟩;rw [HWR.out,HIN.out]
  (try go_wp2_with fail)
  refine hK.out _ _ ?_ (fun hHeld=> ?_)
  ·(try dsimp only);exact ⟨y0,v0,v1,v2,u2⟩
  clear hK K
  try go_frame
  refine Za 7 (some 18) hHeld _ ?_;try go_frame
  refine Zl 8 (some 19) hHeld ?_;try go_frame
  refine Zl 9 (some 20) hHeld ?_;try go_frame
  refine Zl 10 (some 21) hHeld ?_;try go_frame
  refine Zl 11 (some 22) hHeld ?_;try go_frame
  refine Za 12 (some 23) hHeld _ ?_;try go_frame
  refine Za 13 (some 24) hHeld _ ?_;try go_frame
  refine Zl 14 (some 25) hHeld ?_;try go_frame
  refine Zl 15 (some 26) hHeld ?_;try go_frame
  refine Zl 16 (some 27) hHeld ?_;try go_frame
  refine Zl 17 (some 28) hHeld ?_;try go_frame
  refine Za 18 (some 29) hHeld _ ?_;try go_frame
  refine Za 19 (some 6) hHeld _ ?_;try go_frame
  refine wpAnyH_done (by kernel_rfl) ?_ _
  go_wp2
  go_ret
  exact ⟨Zd HX.out.symm,hbW.drew⟩
theorem l9Own_2 (vD:Value) (l:List RM) (r:RM) (x:VM) (B:Nat) (w:World) (h:Qz w B vD l) (hB:B≤w.heap.size) (ok:∀r∈l,r.d.ok) (hr:r.rd w B) (hrk:r.d.ok) (sm:r.d.small 1048576) (hk:Zp (l.map RM.d) r.d=true) (hx:x.rd w B) (hbl:x.b.length≤4194304) (hil:x.items.length≤4194304) (q:r.d.kind=2):
  Calls prog 68 #[.agg #[vD],Ja r,Qs x] w fun e w'=> e= .returned (.bool (Qh (l.map RM.d) r.d x.n x.b.length x.items.length))∧Below w.heap.size w w':=by
 obtain ⟨A,c,rfl,hc,hm, -⟩:=h.open_
 unfold maxLen at hm
 obtain ⟨Ab,cb,eb, -⟩:=hr.b.open_
 obtain ⟨An,cn,en, -⟩:=hr.n.one
 obtain ⟨At,ct,et, -⟩:=hr.t.one
 obtain ⟨Ak,ck,ek,hck,hmk,hkc⟩:=hr.k.one
 have s4:=sm.kids
 obtain ⟨xn,xb,xvb,xvi,L⟩:=x
 obtain ⟨Ax,cx,ex, -⟩:=hx.bytes.open_
 obtain ⟨Ay,cy,ey, -⟩:=hx.its.open_
 simp only [VM.vb_mk,VM.b_mk,VM.vi_mk,VM.items_mk,VM.n_mk] at*
 subst ex ey
 unfold Ja at*
 rw [eb,en,et,ek]
 clear eb en et ek hx h hr sm
 show Calls prog 68 #[_,_, .agg #[.int .i64 xn, .slice Ax xb.length cx, .slice Ay L.length cy]] w _
 generalize xb.length=nb at*
 generalize L.length=ni at*
 have HO:=Fs (own_2 (D:=l.map RM.d) (n:=xn) (nb:=nb) (ni:=ni) q)
 generalize r.d=d at*
 rw [q]
 obtain ⟨W0,hW0⟩:∃W0,W0=((w.alloc (.cells #[.slice A l.length c] 26)).alloc (.cells #[.string d.name, .int .i64 2, .int .i64 d.size, .bool d.little, .slice Ab d.bytes.length cb, .slice An d.names.length cn, .slice At d.tags.length ct, .slice Ak d.kids.length ck] 50)).alloc (.cells #[.int .i64 xn, .slice Ax nb cx, .slice Ay ni cy] 29):=⟨_,rfl⟩
 have hbW:Below w.heap.size w W0:=by rw [hW0];exact (((Fv w.heap.size w).alloc (Fu _) _).alloc (by simp) _).alloc (by simp;omega) _
 have y0:W0.cell? ⟨w.heap.size,0,none⟩=some (.slice A l.length c):=by rw [hW0];simp [go_sem]
 have v0:W0.cell? ⟨w.heap.size+1+1,0,none⟩=some (.int .i64 xn):=by rw [hW0];simp [go_sem]
 have v1:W0.cell? ⟨w.heap.size+1+1,1,none⟩=some (.slice Ax nb cx):=by rw [hW0];simp [go_sem]
 have v2:W0.cell? ⟨w.heap.size+1+1,2,none⟩=some (.slice Ay ni cy):=by rw [hW0];simp [go_sem]
 have u2:W0.cell? ⟨w.heap.size+1,2,none⟩=some (.int .i64 d.size):=by rw [hW0];simp [go_sem]
 have u7:W0.cell? ⟨w.heap.size+1,7,none⟩=some (.slice Ak d.kids.length ck):=by rw [hW0];simp [go_sem]
 clear hkc
 by_cases p0:xn=0
 ·subst p0
  by_cases p1:nb=0
  ·subst p1
   by_cases p2:ni=0
   ·subst p2
    have HX:=Fs (show Qh (l.map RM.d) d 0 0 0=true by rw [HO.out];simp)
    go_enter func68,ntmps68
    go_wp2
    go_ret
    exact ⟨Zd HX.out.symm,by first|exact hbW|(rw [←hW0];exact hbW)⟩
   ·have HX:=Fs (show Qh (l.map RM.d) d 0 0 ni=false by rw [HO.out];simp [p2])
    have f2:((ni:Int)==0)=false:=beq_eq_false_iff_ne.2 (by omega)
    have g2:(ni==0)=false:=beq_eq_false_iff_ne.2 p2
    clear p2
    go_enter func68,ntmps68
    go_wp2
    go_ret
    exact ⟨Zd HX.out.symm,by first|exact hbW|(rw [←hW0];exact hbW)⟩
  ·have HX:=Fs (show Qh (l.map RM.d) d 0 nb ni=false by rw [HO.out];simp [p1])
   have f1:((nb:Int)==0)=false:=beq_eq_false_iff_ne.2 (by omega)
   have g1:(nb==0)=false:=beq_eq_false_iff_ne.2 p1
   clear p1
   go_enter func68,ntmps68
   go_wp2
   go_ret
   exact ⟨Zd HX.out.symm,by first|exact hbW|(rw [←hW0];exact hbW)⟩
 ·have HX:=Fs (show Qh (l.map RM.d) d xn nb ni=false by rw [HO.out];simp [p0])
  have f0:(xn==0)=false:=beq_eq_false_iff_ne.2 p0
  clear p0
  go_enter func68,ntmps68
  go_wp2
  go_ret
  exact ⟨Zd HX.out.symm,by first|exact hbW|(rw [←hW0];exact hbW)⟩
theorem l9Own_3 (vD:Value) (l:List RM) (r:RM) (x:VM) (B:Nat) (w:World) (h:Qz w B vD l) (hB:B≤w.heap.size) (ok:∀r∈l,r.d.ok) (hr:r.rd w B) (hrk:r.d.ok) (sm:r.d.small 1048576) (hk:Zp (l.map RM.d) r.d=true) (hx:x.rd w B) (hbl:x.b.length≤4194304) (hil:x.items.length≤4194304) (q:r.d.kind=3):
  Calls prog 68 #[.agg #[vD],Ja r,Qs x] w fun e w'=> e= .returned (.bool (Qh (l.map RM.d) r.d x.n x.b.length x.items.length))∧Below w.heap.size w w':=by
 obtain ⟨A,c,rfl,hc,hm, -⟩:=h.open_
 unfold maxLen at hm
 obtain ⟨Ab,cb,eb, -⟩:=hr.b.open_
 obtain ⟨An,cn,en, -⟩:=hr.n.one
 obtain ⟨At,ct,et, -⟩:=hr.t.one
 obtain ⟨Ak,ck,ek,hck,hmk,hkc⟩:=hr.k.one
 have s4:=sm.kids
 obtain ⟨xn,xb,xvb,xvi,L⟩:=x
 obtain ⟨Ax,cx,ex, -⟩:=hx.bytes.open_
 obtain ⟨Ay,cy,ey, -⟩:=hx.its.open_
 simp only [VM.vb_mk,VM.b_mk,VM.vi_mk,VM.items_mk,VM.n_mk] at*
 subst ex ey
 unfold Ja at*
 rw [eb,en,et,ek]
 clear eb en et ek hx h hr sm
 show Calls prog 68 #[_,_, .agg #[.int .i64 xn, .slice Ax xb.length cx, .slice Ay L.length cy]] w _
 generalize xb.length=nb at*
 generalize L.length=ni at*
 have HO:=Fs (own_3 (D:=l.map RM.d) (n:=xn) (nb:=nb) (ni:=ni) q)
 generalize r.d=d at*
 rw [q]
 obtain ⟨W0,hW0⟩:∃W0,W0=((w.alloc (.cells #[.slice A l.length c] 26)).alloc (.cells #[.string d.name, .int .i64 3, .int .i64 d.size, .bool d.little, .slice Ab d.bytes.length cb, .slice An d.names.length cn, .slice At d.tags.length ct, .slice Ak d.kids.length ck] 50)).alloc (.cells #[.int .i64 xn, .slice Ax nb cx, .slice Ay ni cy] 29):=⟨_,rfl⟩
 have hbW:Below w.heap.size w W0:=by rw [hW0];exact (((Fv w.heap.size w).alloc (Fu _) _).alloc (by simp) _).alloc (by simp;omega) _
 have y0:W0.cell? ⟨w.heap.size,0,none⟩=some (.slice A l.length c):=by rw [hW0];simp [go_sem]
 have v0:W0.cell? ⟨w.heap.size+1+1,0,none⟩=some (.int .i64 xn):=by rw [hW0];simp [go_sem]
 have v1:W0.cell? ⟨w.heap.size+1+1,1,none⟩=some (.slice Ax nb cx):=by rw [hW0];simp [go_sem]
 have v2:W0.cell? ⟨w.heap.size+1+1,2,none⟩=some (.slice Ay ni cy):=by rw [hW0];simp [go_sem]
 have u2:W0.cell? ⟨w.heap.size+1,2,none⟩=some (.int .i64 d.size):=by rw [hW0];simp [go_sem]
 have u7:W0.cell? ⟨w.heap.size+1,7,none⟩=some (.slice Ak d.kids.length ck):=by rw [hW0];simp [go_sem]
 clear hkc
 by_cases p0:xn=0
 ·subst p0
  by_cases p1:(nb:Int)=d.size
  ·by_cases p2:ni=0
   ·subst p2
    have HX:=Fs (show Qh (l.map RM.d) d 0 nb 0=true by rw [HO.out];simp [p1])
    have f1:((nb:Int)==d.size)=true:=by rw [p1];simp
    clear p1
    go_enter func68,ntmps68
    go_wp2
    go_ret
    exact ⟨Zd HX.out.symm,by first|exact hbW|(rw [←hW0];exact hbW)⟩
   ·have HX:=Fs (show Qh (l.map RM.d) d 0 nb ni=false by rw [HO.out];simp [p1,p2])
    have f1:((nb:Int)==d.size)=true:=by rw [p1];simp
    have f2:((ni:Int)==0)=false:=beq_eq_false_iff_ne.2 (by omega)
    have g2:(ni==0)=false:=beq_eq_false_iff_ne.2 p2
    clear p1 p2
    go_enter func68,ntmps68
    go_wp2
    go_ret
    exact ⟨Zd HX.out.symm,by first|exact hbW|(rw [←hW0];exact hbW)⟩
  ·have HX:=Fs (show Qh (l.map RM.d) d 0 nb ni=false by rw [HO.out];simp [p1])
   have f1:((nb:Int)==d.size)=false:=beq_eq_false_iff_ne.2 p1
   clear p1
   go_enter func68,ntmps68
   go_wp2
   go_ret
   exact ⟨Zd HX.out.symm,by first|exact hbW|(rw [←hW0];exact hbW)⟩
 ·have HX:=Fs (show Qh (l.map RM.d) d xn nb ni=false by rw [HO.out];simp [p0])
  have f0:(xn==0)=false:=beq_eq_false_iff_ne.2 p0
  clear p0
  go_enter func68,ntmps68
  go_wp2
  go_ret
  exact ⟨Zd HX.out.symm,by first|exact hbW|(rw [←hW0];exact hbW)⟩
theorem l9Own_4 (vD:Value) (l:List RM) (r:RM) (x:VM) (B:Nat) (w:World) (h:Qz w B vD l) (hB:B≤w.heap.size) (ok:∀r∈l,r.d.ok) (hr:r.rd w B) (hrk:r.d.ok) (sm:r.d.small 1048576) (hk:Zp (l.map RM.d) r.d=true) (hx:x.rd w B) (hbl:x.b.length≤4194304) (hil:x.items.length≤4194304) (q:r.d.kind=4):
  Calls prog 68 #[.agg #[vD],Ja r,Qs x] w fun e w'=> e= .returned (.bool (Qh (l.map RM.d) r.d x.n x.b.length x.items.length))∧Below w.heap.size w w':=by
 have hLIM:∀W i,Below w.heap.size w W→Qa i→Calls prog 82 #[.agg #[vD], .int .i64 i] W fun e w'=> e= .returned (.int .i64 (Zr (l.map RM.d) i))∧Below W.heap.size W w':=fun W i hb hi=> Vc vD l i B W (h.below (hb.mono hB)) (by have:=hb.size;omega) hi ok
 have HLIM:=Fs hLIM
 clear hLIM
 have hkl:=kids_4 hk q
 obtain ⟨A,c,rfl,hc,hm, -⟩:=h.open_
 unfold maxLen at hm
 obtain ⟨Ab,cb,eb, -⟩:=hr.b.open_
 obtain ⟨An,cn,en, -⟩:=hr.n.one
 obtain ⟨At,ct,et, -⟩:=hr.t.one
 obtain ⟨Ak,ck,ek,hck,hmk,hkc⟩:=hr.k.one
 have s4:=sm.kids
 obtain ⟨xn,xb,xvb,xvi,L⟩:=x
 obtain ⟨Ax,cx,ex, -⟩:=hx.bytes.open_
 obtain ⟨Ay,cy,ey, -⟩:=hx.its.open_
 simp only [VM.vb_mk,VM.b_mk,VM.vi_mk,VM.items_mk,VM.n_mk] at*
 subst ex ey
 unfold Ja at*
 rw [eb,en,et,ek]
 clear eb en et ek hx h hr sm
 show Calls prog 68 #[_,_, .agg #[.int .i64 xn, .slice Ax xb.length cx, .slice Ay L.length cy]] w _
 generalize xb.length=nb at*
 generalize L.length=ni at*
 have HO:=Fs (own_4 (D:=l.map RM.d) (n:=xn) (nb:=nb) (ni:=ni) q)
 generalize r.d=d at*
 rw [q]
 obtain ⟨bk,fk,rfl,hbk,ck0⟩:=hkc 0 (by omega)
 rw [←Jb d 0 (by omega),Nat.add_zero] at ck0
 have hki:Qa (Xt d 0):=by rw [Jb d 0 (by omega)];exact hrk.kids _ (Fw _)
 have HLK:=Fs (fun W hb=> HLIM.out W (Xt d 0) hb hki)
 obtain ⟨lm,hlm⟩:∃lm,lm=Zr (l.map RM.d) (Xt d 0):=⟨_,rfl⟩
 rw [←hlm] at HO HLK
 obtain ⟨mm,hmm⟩:∃mm,mm=min 400 lm:=⟨_,rfl⟩
 rw [←hmm] at HO
 have HM:=Fs hmm
 have HLM:=Fs hlm
 generalize Xt d 0=kv at*
 rw [hkl]
 clear hlm hmm hki HLIM
 obtain ⟨W0,hW0⟩:∃W0,W0=((w.alloc (.cells #[.slice A l.length c] 26)).alloc (.cells #[.string d.name, .int .i64 4, .int .i64 d.size, .bool d.little, .slice Ab d.bytes.length cb, .slice An d.names.length cn, .slice At d.tags.length ct, .slice (some ⟨bk,fk,none⟩) 1 ck] 50)).alloc (.cells #[.int .i64 xn, .slice Ax nb cx, .slice Ay ni cy] 29):=⟨_,rfl⟩
 have hbW:Below w.heap.size w W0:=by rw [hW0];exact (((Fv w.heap.size w).alloc (Fu _) _).alloc (by simp) _).alloc (by simp;omega) _
 have y0:W0.cell? ⟨w.heap.size,0,none⟩=some (.slice A l.length c):=by rw [hW0];simp [go_sem]
 have v0:W0.cell? ⟨w.heap.size+1+1,0,none⟩=some (.int .i64 xn):=by rw [hW0];simp [go_sem]
 have v1:W0.cell? ⟨w.heap.size+1+1,1,none⟩=some (.slice Ax nb cx):=by rw [hW0];simp [go_sem]
 have v2:W0.cell? ⟨w.heap.size+1+1,2,none⟩=some (.slice Ay ni cy):=by rw [hW0];simp [go_sem]
 have u2:W0.cell? ⟨w.heap.size+1,2,none⟩=some (.int .i64 d.size):=by rw [hW0];simp [go_sem]
 have u7:W0.cell? ⟨w.heap.size+1,7,none⟩=some (.slice (some ⟨bk,fk,none⟩) 1 ck):=by rw [hW0];simp [go_sem]
 have ck1:=Zc ck0 (hbW.mono hB) hbk
 clear ck0
 clear hkc
 by_cases p0:xn=0
 ·subst p0
  by_cases p1:(nb:Int)≤mm
  ·by_cases p2:ni=0
   ·subst p2
    have HX:=Fs (show Qh (l.map RM.d) d 0 nb 0=true by rw [HO.out];simp [p1])
    have f1:decide ((nb:Int)≤mm)=true:=Fy p1
    clear p1
    go_enter func68,ntmps68
    go_wp2_with fail
    rw [←hW0]
    clear hW0
    refine wp_region_held_drew (S:=(fun w9=> w9.cell? ⟨w.heap.size,0,none⟩=some (.slice A l.length c)∧w9.cell? ⟨w.heap.size+1+1,0,none⟩=some (.int .i64 0)∧w9.cell? ⟨w.heap.size+1+1,1,none⟩=some (.slice Ax nb cx)∧w9.cell? ⟨w.heap.size+1+1,2,none⟩=some (.slice Ay 0 cy)∧w9.cell? ⟨w.heap.size+1,2,none⟩=some (.int .i64 d.size)∧w9.cell? ⟨w.heap.size+1,7,none⟩=some (.slice (some ⟨bk,fk,none⟩) 1 ck)∧w9.cell? ⟨bk,fk,none⟩=some (.int .i64 kv))) (by kernel_rfl) ?_ (fun hHeld=> ?_)
    ·(try dsimp only);exact ⟨y0,v0,v1,v2,u2,u7,ck1⟩
    refine Za 0 (some 68) hHeld _ ?_;try go_frame
    refine Za 1 (some 69) hHeld _ ?_;try go_frame
    refine Za 2 (some 70) hHeld _ ?_;try go_frame
    refine Za 3 (some 71) hHeld _ ?_;try go_frame
    refine Za 4 (some 72) hHeld _ ?_;try go_frame
    refine Za 5 (some 73) hHeld _ ?_;try go_frame
    refine Za 6 (some 74) hHeld _ ?_;try go_frame
    refine Za 7 (some 75) hHeld _ ?_;try go_frame
    refine Za 8 (some 76) hHeld _ ?_;try go_frame
    refine Za 9 (some 77) hHeld _ ?_;try go_frame
    refine Za 10 (some 78) hHeld _ ?_;try go_frame
    refine Za 11 (some 79) hHeld _ ?_;try go_frame
    refine Zh 12 (fun K hK=> ?_)
    go_simp
    refine (HLK.out _ hbW.drew).mono ?_;rintro e w1 ⟨rfl,bel⟩;have b1:=Zb bel hbW.drew
    (try go_wp2_with fail)
    refine hK.out _ _ ?_ (fun hHeld=> ?_)
    ·(try dsimp only);exact ⟨Ec bel y0,Ec bel v0,Ec bel v1,Ec bel v2,Ec bel u2,Ec bel u7,Ec bel ck1⟩
    clear hK K
    try go_frame
    refine Zh 13 (fun K hK=> ?_)
    go_simp
    refine (Yy _ _ _).mono ?_;rintro e w2 ⟨rfl,rfl⟩;rw [←HM.out]
    (try go_wp2_with fail)
    refine hK.out _ _ ?_ (fun hHeld=> ?_)
    ·(try dsimp only);exact ⟨Ec bel y0,Ec bel v0,Ec bel v1,Ec bel v2,Ec bel u2,Ec bel u7,Ec bel ck1⟩
    clear hK K
    try go_frame
    refine Za 14 (some 82) hHeld _ ?_;try go_frame
    refine Za 15 (some 83) hHeld _ ?_;try go_frame
    refine Za 16 (some 84) hHeld _ ?_;try go_frame
    refine Za 17 (some 85) hHeld _ ?_;try go_frame
    refine Za 18 (some 86) hHeld _ ?_;try go_frame
    refine Za 19 (some 87) hHeld _ ?_;try go_frame
    refine Za 20 (some 88) hHeld _ ?_;try go_frame
    refine Za 21 (some 89) hHeld _ ?_;try go_frame
    refine Za 22 (some 6) hHeld _ ?_;try go_frame
    refine wpAnyH_done (by kernel_rfl) ?_ _
    go_wp2
    go_ret
    exact ⟨Zd HX.out.symm,b1⟩
   ·have HX:=Fs (show Qh (l.map RM.d) d 0 nb ni=false by rw [HO.out];simp [p1,p2])
    have f1:decide ((nb:Int)≤mm)=true:=Fy p1
    have f2:((ni:Int)==0)=false:=beq_eq_false_iff_ne.2 (by omega)
    have g2:(ni==0)=false:=beq_eq_false_iff_ne.2 p2
    clear p1 p2
    go_enter func68,ntmps68
    go_wp2_with fail
    rw [←hW0]
    clear hW0
    refine wp_region_held_drew (S:=(fun w9=> w9.cell? ⟨w.heap.size,0,none⟩=some (.slice A l.length c)∧w9.cell? ⟨w.heap.size+1+1,0,none⟩=some (.int .i64 0)∧w9.cell? ⟨w.heap.size+1+1,1,none⟩=some (.slice Ax nb cx)∧w9.cell? ⟨w.heap.size+1+1,2,none⟩=some (.slice Ay ni cy)∧w9.cell? ⟨w.heap.size+1,2,none⟩=some (.int .i64 d.size)∧w9.cell? ⟨w.heap.size+1,7,none⟩=some (.slice (some ⟨bk,fk,none⟩) 1 ck)∧w9.cell? ⟨bk,fk,none⟩=some (.int .i64 kv))) (by kernel_rfl) ?_ (fun hHeld=> ?_)
    ·(try dsimp only);exact ⟨y0,v0,v1,v2,u2,u7,ck1⟩
    refine Za 0 (some 68) hHeld _ ?_;try go_frame
    refine Za 1 (some 69) hHeld _ ?_;try go_frame
    refine Za 2 (some 70) hHeld _ ?_;try go_frame
    refine Za 3 (some 71) hHeld _ ?_;try go_frame
    refine Za 4 (some 72) hHeld _ ?_;try go_frame
    refine Za 5 (some 73) hHeld _ ?_;try go_frame
    refine Za 6 (some 74) hHeld _ ?_;try go_frame
    refine Za 7 (some 75) hHeld _ ?_;try go_frame
    refine Za 8 (some 76) hHeld _ ?_;try go_frame
    refine Za 9 (some 77) hHeld _ ?_;try go_frame
    refine Za 10 (some 78) hHeld _ ?_;try go_frame
    refine Za 11 (some 79) hHeld _ ?_;try go_frame
    refine Zh 12 (fun K hK=> ?_)
    go_simp
    refine (HLK.out _ hbW.drew).mono ?_;rintro e w1 ⟨rfl,bel⟩;have b1:=Zb bel hbW.drew
    (try go_wp2_with fail)
    refine hK.out _ _ ?_ (fun hHeld=> ?_)
    ·(try dsimp only);exact ⟨Ec bel y0,Ec bel v0,Ec bel v1,Ec bel v2,Ec bel u2,Ec bel u7,Ec bel ck1⟩
    clear hK K
    try go_frame
    refine Zh 13 (fun K hK=> ?_)
    go_simp
    refine (Yy _ _ _).mono ?_;rintro e w2 ⟨rfl,rfl⟩;rw [←HM.out]
    (try go_wp2_with fail)
    refine hK.out _ _ ?_ (fun hHeld=> ?_)
    ·(try dsimp only);exact ⟨Ec bel y0,Ec bel v0,Ec bel v1,Ec bel v2,Ec bel u2,Ec bel u7,Ec bel ck1⟩
    clear hK K
    try go_frame
    refine Za 14 (some 82) hHeld _ ?_;try go_frame
    refine Za 15 (some 83) hHeld _ ?_;try go_frame
    refine Za 16 (some 84) hHeld _ ?_;try go_frame
    refine Za 17 (some 85) hHeld _ ?_;try go_frame
    refine Za 18 (some 86) hHeld _ ?_;try go_frame
    refine Za 19 (some 87) hHeld _ ?_;try go_frame
    refine Za 20 (some 88) hHeld _ ?_;try go_frame
    refine Za 21 (some 89) hHeld _ ?_;try go_frame
    refine Za 22 (some 6) hHeld _ ?_;try go_frame
    refine wpAnyH_done (by kernel_rfl) ?_ _
    go_wp2
    go_ret
    exact ⟨Zd HX.out.symm,b1⟩
  ·have HX:=Fs (show Qh (l.map RM.d) d 0 nb ni=false by rw [HO.out];simp [p1])
   have f1:decide ((nb:Int)≤mm)=false:=Fx p1
   clear p1
   go_enter func68,ntmps68
   go_wp2_with fail
   rw [←hW0]
   clear hW0
   refine wp_region_held_drew (S:=(fun w9=> w9.cell? ⟨w.heap.size,0,none⟩=some (.slice A l.length c)∧w9.cell? ⟨w.heap.size+1+1,0,none⟩=some (.int .i64 0)∧w9.cell? ⟨w.heap.size+1+1,1,none⟩=some (.slice Ax nb cx)∧w9.cell? ⟨w.heap.size+1+1,2,none⟩=some (.slice Ay ni cy)∧w9.cell? ⟨w.heap.size+1,2,none⟩=some (.int .i64 d.size)∧w9.cell? ⟨w.heap.size+1,7,none⟩=some (.slice (some ⟨bk,fk,none⟩) 1 ck)∧w9.cell? ⟨bk,fk,none⟩=some (.int .i64 kv))) (by kernel_rfl) ?_ (fun hHeld=> ?_)
   ·(try dsimp only);exact ⟨y0,v0,v1,v2,u2,u7,ck1⟩
   refine Za 0 (some 68) hHeld _ ?_;try go_frame
   refine Za 1 (some 69) hHeld _ ?_;try go_frame
   refine Za 2 (some 70) hHeld _ ?_;try go_frame
   refine Za 3 (some 71) hHeld _ ?_;try go_frame
   refine Za 4 (some 72) hHeld _ ?_;try go_frame
   refine Za 5 (some 73) hHeld _ ?_;try go_frame
   refine Za 6 (some 74) hHeld _ ?_;try go_frame
   refine Za 7 (some 75) hHeld _ ?_;try go_frame
   refine Za 8 (some 76) hHeld _ ?_;try go_frame
   refine Za 9 (some 77) hHeld _ ?_;try go_frame
   refine Za 10 (some 78) hHeld _ ?_;try go_frame
   refine Za 11 (some 79) hHeld _ ?_;try go_frame
   refine Zh 12 (fun K hK=> ?_)
   go_simp
   refine (HLK.out _ hbW.drew).mono ?_;rintro e w1 ⟨rfl,bel⟩;have b1:=Zb bel hbW.drew
   (try go_wp2_with fail)
   refine hK.out _ _ ?_ (fun hHeld=> ?_)
   ·(try dsimp only);exact ⟨Ec bel y0,Ec bel v0,Ec bel v1,Ec bel v2,Ec bel u2,Ec bel u7,Ec bel ck1⟩
   clear hK K
   try go_frame
   refine Zh 13 (fun K hK=> ?_)
   go_simp
   refine (Yy _ _ _).mono ?_;rintro e w2 ⟨rfl,rfl⟩;rw [←HM.out]
   (try go_wp2_with fail)
   refine hK.out _ _ ?_ (fun hHeld=> ?_)
   ·(try dsimp only);exact ⟨Ec bel y0,Ec bel v0,Ec bel v1,Ec bel v2,Ec bel u2,Ec bel u7,Ec bel ck1⟩
   clear hK K
   try go_frame
   refine Za 14 (some 82) hHeld _ ?_;try go_frame
   refine Za 15 (some 83) hHeld _ ?_;try go_frame
   refine Za 16 (some 84) hHeld _ ?_;try go_frame
   refine Zl 17 (some 85) hHeld ?_;try go_frame
   refine Zl 18 (some 86) hHeld ?_;try go_frame
   refine Zl 19 (some 87) hHeld ?_;try go_frame
   refine Zl 20 (some 88) hHeld ?_;try go_frame
   refine Za 21 (some 89) hHeld _ ?_;try go_frame
   refine Za 22 (some 6) hHeld _ ?_;try go_frame
   refine wpAnyH_done (by kernel_rfl) ?_ _
   go_wp2
   go_ret
   exact ⟨Zd HX.out.symm,b1⟩
 ·have HX:=Fs (show Qh (l.map RM.d) d xn nb ni=false by rw [HO.out];simp [p0])
  have f0:(xn==0)=false:=beq_eq_false_iff_ne.2 p0
  clear p0
  go_enter func68,ntmps68
  go_wp2_with fail
  rw [←hW0]
  clear hW0
  refine wp_region_held_drew (S:=(fun w9=> w9.cell? ⟨w.heap.size,0,none⟩=some (.slice A l.length c)∧w9.cell? ⟨w.heap.size+1+1,0,none⟩=some (.int .i64 xn)∧w9.cell? ⟨w.heap.size+1+1,1,none⟩=some (.slice Ax nb cx)∧w9.cell? ⟨w.heap.size+1+1,2,none⟩=some (.slice Ay ni cy)∧w9.cell? ⟨w.heap.size+1,2,none⟩=some (.int .i64 d.size)∧w9.cell? ⟨w.heap.size+1,7,none⟩=some (.slice (some ⟨bk,fk,none⟩) 1 ck)∧w9.cell? ⟨bk,fk,none⟩=some (.int .i64 kv))) (by kernel_rfl) ?_ (fun hHeld=> ?_)
  ·(try dsimp only);exact ⟨y0,v0,v1,v2,u2,u7,ck1⟩
  refine Za 0 (some 68) hHeld _ ?_;try go_frame
  refine Za 1 (some 69) hHeld _ ?_;try go_frame
  refine Za 2 (some 70) hHeld _ ?_;try go_frame
  refine Za 3 (some 71) hHeld _ ?_;try go_frame
  refine Zl 4 (some 72) hHeld ?_;try go_frame
  refine Zl 5 (some 73) hHeld ?_;try go_frame
  refine Zl 6 (some 74) hHeld ?_;try go_frame
  refine Zl 7 (some 75) hHeld ?_;try go_frame
  refine Zl 8 (some 76) hHeld ?_;try go_frame
  refine Zl 9 (some 77) hHeld ?_;try go_frame
  refine Zl 10 (some 78) hHeld ?_;try go_frame
  refine Zl 11 (some 79) hHeld ?_;try go_frame
  refine Zl 12 (some 80) hHeld ?_;try go_frame
  refine Zl 13 (some 81) hHeld ?_;try go_frame
  refine Zl 14 (some 82) hHeld ?_;try go_frame
  refine Za 15 (some 83) hHeld _ ?_;try go_frame
  refine Za 16 (some 84) hHeld _ ?_;try go_frame
  refine Zl 17 (some 85) hHeld ?_;try go_frame
  refine Zl 18 (some 86) hHeld ?_;try go_frame
  refine Zl 19 (some 87) hHeld ?_;try go_frame
  refine Zl 20 (some 88) hHeld ?_;try go_frame
  refine Za 21 (some 89) hHeld _ ?_;try go_frame
  refine Za 22 (some 6) hHeld _ ?_;try go_frame
  refine wpAnyH_done (by kernel_rfl) ?_ _
  go_wp2
  go_ret
  exact ⟨Zd HX.out.symm,hbW.drew⟩
theorem l9Own_5 (vD:Value) (l:List RM) (r:RM) (x:VM) (B:Nat) (w:World) (h:Qz w B vD l) (hB:B≤w.heap.size) (ok:∀r∈l,r.d.ok) (hr:r.rd w B) (hrk:r.d.ok) (sm:r.d.small 1048576) (hk:Zp (l.map RM.d) r.d=true) (hx:x.rd w B) (hbl:x.b.length≤4194304) (hil:x.items.length≤4194304) (q:r.d.kind=5):
  Calls prog 68 #[.agg #[vD],Ja r,Qs x] w fun e w'=> e= .returned (.bool (Qh (l.map RM.d) r.d x.n x.b.length x.items.length))∧Below w.heap.size w w':=by
 have hLIM:∀W i,Below w.heap.size w W→Qa i→Calls prog 82 #[.agg #[vD], .int .i64 i] W fun e w'=> e= .returned (.int .i64 (Zr (l.map RM.d) i))∧Below W.heap.size W w':=fun W i hb hi=> Vc vD l i B W (h.below (hb.mono hB)) (by have:=hb.size;omega) hi ok
 have HLIM:=Fs hLIM
 clear hLIM
 have hkl:=Ir hk q
 obtain ⟨A,c,rfl,hc,hm, -⟩:=h.open_
 unfold maxLen at hm
 obtain ⟨Ab,cb,eb, -⟩:=hr.b.open_
 obtain ⟨An,cn,en, -⟩:=hr.n.one
 obtain ⟨At,ct,et, -⟩:=hr.t.one
 obtain ⟨Ak,ck,ek,hck,hmk,hkc⟩:=hr.k.one
 have s4:=sm.kids
 obtain ⟨xn,xb,xvb,xvi,L⟩:=x
 obtain ⟨Ax,cx,ex, -⟩:=hx.bytes.open_
 obtain ⟨Ay,cy,ey, -⟩:=hx.its.open_
 simp only [VM.vb_mk,VM.b_mk,VM.vi_mk,VM.items_mk,VM.n_mk] at*
 subst ex ey
 unfold Ja at*
 rw [eb,en,et,ek]
 clear eb en et ek hx h hr sm
 show Calls prog 68 #[_,_, .agg #[.int .i64 xn, .slice Ax xb.length cx, .slice Ay L.length cy]] w _
 generalize xb.length=nb at*
 generalize L.length=ni at*
 have HO:=Fs (own_5 (D:=l.map RM.d) (n:=xn) (nb:=nb) (ni:=ni) q)
 generalize r.d=d at*
 rw [q]
 obtain ⟨bk,fk,rfl,hbk,ck0⟩:=hkc 0 (by omega)
 rw [←Jb d 0 (by omega),Nat.add_zero] at ck0
 have hki:Qa (Xt d 0):=by rw [Jb d 0 (by omega)];exact hrk.kids _ (Fw _)
 have HLK:=Fs (fun W hb=> HLIM.out W (Xt d 0) hb hki)
 obtain ⟨lm,hlm⟩:∃lm,lm=Zr (l.map RM.d) (Xt d 0):=⟨_,rfl⟩
 rw [←hlm] at HO HLK
 obtain ⟨mm,hmm⟩:∃mm,mm=min 40 lm:=⟨_,rfl⟩
 rw [←hmm] at HO
 have HM:=Fs hmm
 have HLM:=Fs hlm
 generalize Xt d 0=kv at*
 rw [hkl]
 clear hlm hmm hki HLIM
 obtain ⟨W0,hW0⟩:∃W0,W0=((w.alloc (.cells #[.slice A l.length c] 26)).alloc (.cells #[.string d.name, .int .i64 5, .int .i64 d.size, .bool d.little, .slice Ab d.bytes.length cb, .slice An d.names.length cn, .slice At d.tags.length ct, .slice (some ⟨bk,fk,none⟩) 2 ck] 50)).alloc (.cells #[.int .i64 xn, .slice Ax nb cx, .slice Ay ni cy] 29):=⟨_,rfl⟩
 have hbW:Below w.heap.size w W0:=by rw [hW0];exact (((Fv w.heap.size w).alloc (Fu _) _).alloc (by simp) _).alloc (by simp;omega) _
 have y0:W0.cell? ⟨w.heap.size,0,none⟩=some (.slice A l.length c):=by rw [hW0];simp [go_sem]
 have v0:W0.cell? ⟨w.heap.size+1+1,0,none⟩=some (.int .i64 xn):=by rw [hW0];simp [go_sem]
 have v1:W0.cell? ⟨w.heap.size+1+1,1,none⟩=some (.slice Ax nb cx):=by rw [hW0];simp [go_sem]
 have v2:W0.cell? ⟨w.heap.size+1+1,2,none⟩=some (.slice Ay ni cy):=by rw [hW0];simp [go_sem]
 have u2:W0.cell? ⟨w.heap.size+1,2,none⟩=some (.int .i64 d.size):=by rw [hW0];simp [go_sem]
 have u7:W0.cell? ⟨w.heap.size+1,7,none⟩=some (.slice (some ⟨bk,fk,none⟩) 2 ck):=by rw [hW0];simp [go_sem]
 have ck1:=Zc ck0 (hbW.mono hB) hbk
 clear ck0
 clear hkc
 by_cases p0:xn=0
 ·subst p0
  by_cases p1:nb=0
  ·subst p1
   by_cases p2:(ni:Int)≤mm
   ·have HX:=Fs (show Qh (l.map RM.d) d 0 0 ni=true by rw [HO.out];simp [p2])
    have f2:decide ((ni:Int)≤mm)=true:=Fy p2
    clear p2
    go_enter func68,ntmps68
    go_wp2_with fail
    rw [←hW0]
    clear hW0
    refine wp_region_held_drew (S:=(fun w9=> w9.cell? ⟨w.heap.size,0,none⟩=some (.slice A l.length c)∧w9.cell? ⟨w.heap.size+1+1,0,none⟩=some (.int .i64 0)∧w9.cell? ⟨w.heap.size+1+1,1,none⟩=some (.slice Ax 0 cx)∧w9.cell? ⟨w.heap.size+1+1,2,none⟩=some (.slice Ay ni cy)∧w9.cell? ⟨w.heap.size+1,2,none⟩=some (.int .i64 d.size)∧w9.cell? ⟨w.heap.size+1,7,none⟩=some (.slice (some ⟨bk,fk,none⟩) 2 ck)∧w9.cell? ⟨bk,fk,none⟩=some (.int .i64 kv))) (by kernel_rfl) ?_ (fun hHeld=> ?_)
    ·(try dsimp only);exact ⟨y0,v0,v1,v2,u2,u7,ck1⟩
    refine Za 0 (some 109) hHeld _ ?_;try go_frame
    refine Za 1 (some 110) hHeld _ ?_;try go_frame
    refine Za 2 (some 111) hHeld _ ?_;try go_frame
    refine Za 3 (some 112) hHeld _ ?_;try go_frame
    refine Za 4 (some 113) hHeld _ ?_;try go_frame
    refine Za 5 (some 114) hHeld _ ?_;try go_frame
    refine Za 6 (some 115) hHeld _ ?_;try go_frame
    refine Za 7 (some 116) hHeld _ ?_;try go_frame
    refine Za 8 (some 117) hHeld _ ?_;try go_frame
    refine Za 9 (some 118) hHeld _ ?_;try go_frame
    refine Za 10 (some 119) hHeld _ ?_;try go_frame
    refine Za 11 (some 120) hHeld _ ?_;try go_frame
    refine Za 12 (some 121) hHeld _ ?_;try go_frame
    refine Za 13 (some 122) hHeld _ ?_;try go_frame
    refine Za 14 (some 123) hHeld _ ?_;try go_frame
    refine Za 15 (some 124) hHeld _ ?_;try go_frame
    refine Za 16 (some 125) hHeld _ ?_;try go_frame
    refine Za 17 (some 126) hHeld _ ?_;try go_frame
    refine Zh 18 (fun K hK=> ?_)
    go_simp
    refine (HLK.out _ hbW.drew).mono ?_;rintro e w1 ⟨rfl,bel⟩;have b1:=Zb bel hbW.drew
    (try go_wp2_with fail)
    refine hK.out _ _ ?_ (fun hHeld=> ?_)
    ·(try dsimp only);exact ⟨Ec bel y0,Ec bel v0,Ec bel v1,Ec bel v2,Ec bel u2,Ec bel u7,Ec bel ck1⟩
    clear hK K
    try go_frame
    refine Zh 19 (fun K hK=> ?_)
    go_simp
    refine (Yy _ _ _).mono ?_;rintro e w2 ⟨rfl,rfl⟩;rw [←HM.out]
    (try go_wp2_with fail)
    refine hK.out _ _ ?_ (fun hHeld=> ?_)
    ·(try dsimp only);exact ⟨Ec bel y0,Ec bel v0,Ec bel v1,Ec bel v2,Ec bel u2,Ec bel u7,Ec bel ck1⟩
    clear hK K
    try go_frame
    refine Za 20 (some 129) hHeld _ ?_;try go_frame
    refine Za 21 (some 130) hHeld _ ?_;try go_frame
    refine Za 22 (some 6) hHeld _ ?_;try go_frame
    refine wpAnyH_done (by kernel_rfl) ?_ _
    go_wp2
    go_ret
    exact ⟨Zd HX.out.symm,b1⟩
   ·have HX:=Fs (show Qh (l.map RM.d) d 0 0 ni=false by rw [HO.out];simp [p2])
    have f2:decide ((ni:Int)≤mm)=false:=Fx p2
    clear p2
    go_enter func68,ntmps68
    go_wp2_with fail
    rw [←hW0]
    clear hW0
    refine wp_region_held_drew (S:=(fun w9=> w9.cell? ⟨w.heap.size,0,none⟩=some (.slice A l.length c)∧w9.cell? ⟨w.heap.size+1+1,0,none⟩=some (.int .i64 0)∧w9.cell? ⟨w.heap.size+1+1,1,none⟩=some (.slice Ax 0 cx)∧w9.cell? ⟨w.heap.size+1+1,2,none⟩=some (.slice Ay ni cy)∧w9.cell? ⟨w.heap.size+1,2,none⟩=some (.int .i64 d.size)∧w9.cell? ⟨w.heap.size+1,7,none⟩=some (.slice (some ⟨bk,fk,none⟩) 2 ck)∧w9.cell? ⟨bk,fk,none⟩=some (.int .i64 kv))) (by kernel_rfl) ?_ (fun hHeld=> ?_)
    ·(try dsimp only);exact ⟨y0,v0,v1,v2,u2,u7,ck1⟩
    refine Za 0 (some 109) hHeld _ ?_;try go_frame
    refine Za 1 (some 110) hHeld _ ?_;try go_frame
    refine Za 2 (some 111) hHeld _ ?_;try go_frame
    refine Za 3 (some 112) hHeld _ ?_;try go_frame
    refine Za 4 (some 113) hHeld _ ?_;try go_frame
    refine Za 5 (some 114) hHeld _ ?_;try go_frame
    refine Za 6 (some 115) hHeld _ ?_;try go_frame
    refine Za 7 (some 116) hHeld _ ?_;try go_frame
    refine Za 8 (some 117) hHeld _ ?_;try go_frame
    refine Za 9 (some 118) hHeld _ ?_;try go_frame
    refine Za 10 (some 119) hHeld _ ?_;try go_frame
    refine Za 11 (some 120) hHeld _ ?_;try go_frame
    refine Za 12 (some 121) hHeld _ ?_;try go_frame
    refine Za 13 (some 122) hHeld _ ?_;try go_frame
    refine Za 14 (some 123) hHeld _ ?_;try go_frame
    refine Za 15 (some 124) hHeld _ ?_;try go_frame
    refine Za 16 (some 125) hHeld _ ?_;try go_frame
    refine Za 17 (some 126) hHeld _ ?_;try go_frame
    refine Zh 18 (fun K hK=> ?_)
    go_simp
    refine (HLK.out _ hbW.drew).mono ?_;rintro e w1 ⟨rfl,bel⟩;have b1:=Zb bel hbW.drew
    (try go_wp2_with fail)
    refine hK.out _ _ ?_ (fun hHeld=> ?_)
    ·(try dsimp only);exact ⟨Ec bel y0,Ec bel v0,Ec bel v1,Ec bel v2,Ec bel u2,Ec bel u7,Ec bel ck1⟩
    clear hK K
    try go_frame
    refine Zh 19 (fun K hK=> ?_)
    go_simp
    refine (Yy _ _ _).mono ?_;rintro e w2 ⟨rfl,rfl⟩;rw [←HM.out]
    (try go_wp2_with fail)
    refine hK.out _ _ ?_ (fun hHeld=> ?_)
    ·(try dsimp only);exact ⟨Ec bel y0,Ec bel v0,Ec bel v1,Ec bel v2,Ec bel u2,Ec bel u7,Ec bel ck1⟩
    clear hK K
    try go_frame
    refine Za 20 (some 129) hHeld _ ?_;try go_frame
    refine Za 21 (some 130) hHeld _ ?_;try go_frame
    refine Za 22 (some 6) hHeld _ ?_;try go_frame
    refine wpAnyH_done (by kernel_rfl) ?_ _
    go_wp2
    go_ret
    exact ⟨Zd HX.out.symm,b1⟩
  ·have HX:=Fs (show Qh (l.map RM.d) d 0 nb ni=false by rw [HO.out];simp [p1])
   have f1:((nb:Int)==0)=false:=beq_eq_false_iff_ne.2 (by omega)
   have g1:(nb==0)=false:=beq_eq_false_iff_ne.2 p1
   clear p1
   go_enter func68,ntmps68
   go_wp2_with fail
   rw [←hW0]
   clear hW0
   refine wp_region_held_drew (S:=(fun w9=> w9.cell? ⟨w.heap.size,0,none⟩=some (.slice A l.length c)∧w9.cell? ⟨w.heap.size+1+1,0,none⟩=some (.int .i64 0)∧w9.cell? ⟨w.heap.size+1+1,1,none⟩=some (.slice Ax nb cx)∧w9.cell? ⟨w.heap.size+1+1,2,none⟩=some (.slice Ay ni cy)∧w9.cell? ⟨w.heap.size+1,2,none⟩=some (.int .i64 d.size)∧w9.cell? ⟨w.heap.size+1,7,none⟩=some (.slice (some ⟨bk,fk,none⟩) 2 ck)∧w9.cell? ⟨bk,fk,none⟩=some (.int .i64 kv))) (by kernel_rfl) ?_ (fun hHeld=> ?_)
   ·(try dsimp only);exact ⟨y0,v0,v1,v2,u2,u7,ck1⟩
   refine Za 0 (some 109) hHeld _ ?_;try go_frame
   refine Za 1 (some 110) hHeld _ ?_;try go_frame
   refine Za 2 (some 111) hHeld _ ?_;try go_frame
   refine Za 3 (some 112) hHeld _ ?_;try go_frame
   refine Za 4 (some 113) hHeld _ ?_;try go_frame
   refine Za 5 (some 114) hHeld _ ?_;try go_frame
   refine Za 6 (some 115) hHeld _ ?_;try go_frame
   refine Za 7 (some 116) hHeld _ ?_;try go_frame
   refine Za 8 (some 117) hHeld _ ?_;try go_frame
   refine Za 9 (some 118) hHeld _ ?_;try go_frame
   refine Zl 10 (some 119) hHeld ?_;try go_frame
   refine Zl 11 (some 120) hHeld ?_;try go_frame
   refine Zl 12 (some 121) hHeld ?_;try go_frame
   refine Zl 13 (some 122) hHeld ?_;try go_frame
   refine Zl 14 (some 123) hHeld ?_;try go_frame
   refine Zl 15 (some 124) hHeld ?_;try go_frame
   refine Zl 16 (some 125) hHeld ?_;try go_frame
   refine Zl 17 (some 126) hHeld ?_;try go_frame
   refine Zl 18 (some 127) hHeld ?_;try go_frame
   refine Zl 19 (some 128) hHeld ?_;try go_frame
   refine Zl 20 (some 129) hHeld ?_;try go_frame
   refine Za 21 (some 130) hHeld _ ?_;try go_frame
   refine Za 22 (some 6) hHeld _ ?_;try go_frame
   refine wpAnyH_done (by kernel_rfl) ?_ _
   go_wp2
   go_ret
   exact ⟨Zd HX.out.symm,hbW.drew⟩
 ·have HX:=Fs (show Qh (l.map RM.d) d xn nb ni=false by rw [HO.out];simp [p0])
  have f0:(xn==0)=false:=beq_eq_false_iff_ne.2 p0
  clear p0
  go_enter func68,ntmps68
  go_wp2_with fail
  rw [←hW0]
  clear hW0
  refine wp_region_held_drew (S:=(fun w9=> w9.cell? ⟨w.heap.size,0,none⟩=some (.slice A l.length c)∧w9.cell? ⟨w.heap.size+1+1,0,none⟩=some (.int .i64 xn)∧w9.cell? ⟨w.heap.size+1+1,1,none⟩=some (.slice Ax nb cx)∧w9.cell? ⟨w.heap.size+1+1,2,none⟩=some (.slice Ay ni cy)∧w9.cell? ⟨w.heap.size+1,2,none⟩=some (.int .i64 d.size)∧w9.cell? ⟨w.heap.size+1,7,none⟩=some (.slice (some ⟨bk,fk,none⟩) 2 ck)∧w9.cell? ⟨bk,fk,none⟩=some (.int .i64 kv))) (by kernel_rfl) ?_ (fun hHeld=> ?_)
  ·(try dsimp only);exact ⟨y0,v0,v1,v2,u2,u7,ck1⟩
  refine Za 0 (some 109) hHeld _ ?_;try go_frame
  refine Za 1 (some 110) hHeld _ ?_;try go_frame
  refine Za 2 (some 111) hHeld _ ?_;try go_frame
  refine Za 3 (some 112) hHeld _ ?_;try go_frame
  refine Zl 4 (some 113) hHeld ?_;try go_frame
  refine Zl 5 (some 114) hHeld ?_;try go_frame
  refine Zl 6 (some 115) hHeld ?_;try go_frame
  refine Zl 7 (some 116) hHeld ?_;try go_frame
  refine Za 8 (some 117) hHeld _ ?_;try go_frame
  refine Za 9 (some 118) hHeld _ ?_;try go_frame
  refine Zl 10 (some 119) hHeld ?_;try go_frame
  refine Zl 11 (some 120) hHeld ?_;try go_frame
  refine Zl 12 (some 121) hHeld ?_;try go_frame
  refine Zl 13 (some 122) hHeld ?_;try go_frame
  refine Zl 14 (some 123) hHeld ?_;try go_frame
  refine Zl 15 (some 124) hHeld ?_;try go_frame
  refine Zl 16 (some 125) hHeld ?_;try go_frame
  refine Zl 17 (some 126) hHeld ?_;try go_frame
  refine Zl 18 (some 127) hHeld ?_;try go_frame
  refine Zl 19 (some 128) hHeld ?_;try go_frame
  refine Zl 20 (some 129) hHeld ?_;try go_frame
  refine Za 21 (some 130) hHeld _ ?_;try go_frame
  refine Za 22 (some 6) hHeld _ ?_;try go_frame
  refine wpAnyH_done (by kernel_rfl) ?_ _
  go_wp2
  go_ret
  exact ⟨Zd HX.out.symm,hbW.drew⟩
theorem l9Own_6 (vD:Value) (l:List RM) (r:RM) (x:VM) (B:Nat) (w:World) (h:Qz w B vD l) (hB:B≤w.heap.size) (ok:∀r∈l,r.d.ok) (hr:r.rd w B) (hrk:r.d.ok) (sm:r.d.small 1048576) (hk:Zp (l.map RM.d) r.d=true) (hx:x.rd w B) (hbl:x.b.length≤4194304) (hil:x.items.length≤4194304) (q:r.d.kind=6):
  Calls prog 68 #[.agg #[vD],Ja r,Qs x] w fun e w'=> e= .returned (.bool (Qh (l.map RM.d) r.d x.n x.b.length x.items.length))∧Below w.heap.size w w':=by
 obtain ⟨A,c,rfl,hc,hm, -⟩:=h.open_
 unfold maxLen at hm
 obtain ⟨Ab,cb,eb, -⟩:=hr.b.open_
 obtain ⟨An,cn,en, -⟩:=hr.n.one
 obtain ⟨At,ct,et, -⟩:=hr.t.one
 obtain ⟨Ak,ck,ek,hck,hmk,hkc⟩:=hr.k.one
 have s4:=sm.kids
 obtain ⟨xn,xb,xvb,xvi,L⟩:=x
 obtain ⟨Ax,cx,ex, -⟩:=hx.bytes.open_
 obtain ⟨Ay,cy,ey, -⟩:=hx.its.open_
 simp only [VM.vb_mk,VM.b_mk,VM.vi_mk,VM.items_mk,VM.n_mk] at*
 subst ex ey
 unfold Ja at*
 rw [eb,en,et,ek]
 clear eb en et ek hx h hr sm
 show Calls prog 68 #[_,_, .agg #[.int .i64 xn, .slice Ax xb.length cx, .slice Ay L.length cy]] w _
 generalize xb.length=nb at*
 generalize L.length=ni at*
 have HO:=Fs (own_6 (D:=l.map RM.d) (n:=xn) (nb:=nb) (ni:=ni) q)
 generalize r.d=d at*
 rw [q]
 obtain ⟨W0,hW0⟩:∃W0,W0=((w.alloc (.cells #[.slice A l.length c] 26)).alloc (.cells #[.string d.name, .int .i64 6, .int .i64 d.size, .bool d.little, .slice Ab d.bytes.length cb, .slice An d.names.length cn, .slice At d.tags.length ct, .slice Ak d.kids.length ck] 50)).alloc (.cells #[.int .i64 xn, .slice Ax nb cx, .slice Ay ni cy] 29):=⟨_,rfl⟩
 have hbW:Below w.heap.size w W0:=by rw [hW0];exact (((Fv w.heap.size w).alloc (Fu _) _).alloc (by simp) _).alloc (by simp;omega) _
 have y0:W0.cell? ⟨w.heap.size,0,none⟩=some (.slice A l.length c):=by rw [hW0];simp [go_sem]
 have v0:W0.cell? ⟨w.heap.size+1+1,0,none⟩=some (.int .i64 xn):=by rw [hW0];simp [go_sem]
 have v1:W0.cell? ⟨w.heap.size+1+1,1,none⟩=some (.slice Ax nb cx):=by rw [hW0];simp [go_sem]
 have v2:W0.cell? ⟨w.heap.size+1+1,2,none⟩=some (.slice Ay ni cy):=by rw [hW0];simp [go_sem]
 have u2:W0.cell? ⟨w.heap.size+1,2,none⟩=some (.int .i64 d.size):=by rw [hW0];simp [go_sem]
 have u7:W0.cell? ⟨w.heap.size+1,7,none⟩=some (.slice Ak d.kids.length ck):=by rw [hW0];simp [go_sem]
 clear hkc
 by_cases p0:xn=0
 ·subst p0
  by_cases p1:nb=0
  ·subst p1
   by_cases p2:ni=d.kids.length
   ·subst p2
    have HX:=Fs (show Qh (l.map RM.d) d 0 0 d.kids.length=true by rw [HO.out];simp)
    go_enter func68,ntmps68
    go_wp2
    go_ret
    exact ⟨Zd HX.out.symm,by first|exact hbW|(rw [←hW0];exact hbW)⟩
   ·have HX:=Fs (show Qh (l.map RM.d) d 0 0 ni=false by rw [HO.out];simp [p2])
    have f2:((ni:Int)==(d.kids.length:Int))=false:=beq_eq_false_iff_ne.2 (by omega)
    have g2:(ni==d.kids.length)=false:=beq_eq_false_iff_ne.2 p2
    clear p2
    go_enter func68,ntmps68
    go_wp2
    go_ret
    exact ⟨Zd HX.out.symm,by first|exact hbW|(rw [←hW0];exact hbW)⟩
  ·have HX:=Fs (show Qh (l.map RM.d) d 0 nb ni=false by rw [HO.out];simp [p1])
   have f1:((nb:Int)==0)=false:=beq_eq_false_iff_ne.2 (by omega)
   have g1:(nb==0)=false:=beq_eq_false_iff_ne.2 p1
   clear p1
   go_enter func68,ntmps68
   go_wp2
   go_ret
   exact ⟨Zd HX.out.symm,by first|exact hbW|(rw [←hW0];exact hbW)⟩
 ·have HX:=Fs (show Qh (l.map RM.d) d xn nb ni=false by rw [HO.out];simp [p0])
  have f0:(xn==0)=false:=beq_eq_false_iff_ne.2 p0
  clear p0
  go_enter func68,ntmps68
  go_wp2
  go_ret
  exact ⟨Zd HX.out.symm,by first|exact hbW|(rw [←hW0];exact hbW)⟩
theorem l9Own_7 (vD:Value) (l:List RM) (r:RM) (x:VM) (B:Nat) (w:World) (h:Qz w B vD l) (hB:B≤w.heap.size) (ok:∀r∈l,r.d.ok) (hr:r.rd w B) (hrk:r.d.ok) (sm:r.d.small 1048576) (hk:Zp (l.map RM.d) r.d=true) (hx:x.rd w B) (hbl:x.b.length≤4194304) (hil:x.items.length≤4194304) (q:r.d.kind=7):
  Calls prog 68 #[.agg #[vD],Ja r,Qs x] w fun e w'=> e= .returned (.bool (Qh (l.map RM.d) r.d x.n x.b.length x.items.length))∧Below w.heap.size w w':=by
 have hIT:∀W,Below w.heap.size w W→Calls prog 37 #[Ja r, .int .i64 x.n, .int .i64 0] W fun e w'=> e= .returned (.int .i64 (Qk r.d x.n 0))∧Below W.heap.size W w':=fun W hb=> Vm (l.map RM.d) r x.n 0 B W (hr.below (hb.mono hB)) (by have:=hb.size;omega) hk sm (by omega)
 obtain ⟨A,c,rfl,hc,hm, -⟩:=h.open_
 unfold maxLen at hm
 obtain ⟨Ab,cb,eb, -⟩:=hr.b.open_
 obtain ⟨An,cn,en, -⟩:=hr.n.one
 obtain ⟨At,ct,et, -⟩:=hr.t.one
 obtain ⟨Ak,ck,ek,hck,hmk,hkc⟩:=hr.k.one
 have s4:=sm.kids
 obtain ⟨xn,xb,xvb,xvi,L⟩:=x
 obtain ⟨Ax,cx,ex, -⟩:=hx.bytes.open_
 obtain ⟨Ay,cy,ey, -⟩:=hx.its.open_
 simp only [VM.vb_mk,VM.b_mk,VM.vi_mk,VM.items_mk,VM.n_mk] at*
 subst ex ey
 unfold Ja at*
 rw [eb,en,et,ek]
 rw [eb,en,et,ek] at hIT
 clear eb en et ek hx h hr sm
 show Calls prog 68 #[_,_, .agg #[.int .i64 xn, .slice Ax xb.length cx, .slice Ay L.length cy]] w _
 generalize xb.length=nb at*
 generalize L.length=ni at*
 have HO:=Fs (own_7 (D:=l.map RM.d) (n:=xn) (nb:=nb) (ni:=ni) q)
 generalize r.d=d at*
 rw [q]
 rw [q] at hIT
 obtain ⟨it,hit⟩:∃it,it=Qk d xn 0:=⟨_,rfl⟩
 rw [←hit] at hIT
 have HIT:=Fs hit
 have HI:=Fs hIT
 clear hit hIT
 obtain ⟨W0,hW0⟩:∃W0,W0=((w.alloc (.cells #[.slice A l.length c] 26)).alloc (.cells #[.string d.name, .int .i64 7, .int .i64 d.size, .bool d.little, .slice Ab d.bytes.length cb, .slice An d.names.length cn, .slice At d.tags.length ct, .slice Ak d.kids.length ck] 50)).alloc (.cells #[.int .i64 xn, .slice Ax nb cx, .slice Ay ni cy] 29):=⟨_,rfl⟩
 have hbW:Below w.heap.size w W0:=by rw [hW0];exact (((Fv w.heap.size w).alloc (Fu _) _).alloc (by simp) _).alloc (by simp;omega) _
 have y0:W0.cell? ⟨w.heap.size,0,none⟩=some (.slice A l.length c):=by rw [hW0];simp [go_sem]
 have v0:W0.cell? ⟨w.heap.size+1+1,0,none⟩=some (.int .i64 xn):=by rw [hW0];simp [go_sem]
 have v1:W0.cell? ⟨w.heap.size+1+1,1,none⟩=some (.slice Ax nb cx):=by rw [hW0];simp [go_sem]
 have v2:W0.cell? ⟨w.heap.size+1+1,2,none⟩=some (.slice Ay ni cy):=by rw [hW0];simp [go_sem]
 have u2:W0.cell? ⟨w.heap.size+1,2,none⟩=some (.int .i64 d.size):=by rw [hW0];simp [go_sem]
 have u7:W0.cell? ⟨w.heap.size+1,7,none⟩=some (.slice Ak d.kids.length ck):=by rw [hW0];simp [go_sem]
 clear hkc
 by_cases p0:nb=0
 ·subst p0
  by_cases p1:ni=1
  ·subst p1
   by_cases p2:0≤Qk d xn 0
   ·have HX:=Fs (show Qh (l.map RM.d) d xn 0 1=true by rw [HO.out];simp [p2])
    have f2:decide (0≤it)=true:=Fy (by rw [HIT.out];exact p2)
    clear p2
    go_enter func68,ntmps68
    go_wp2_with fail
    rw [←hW0]
    clear hW0
    refine (HI.out _ hbW).mono ?_
    rintro e w1 ⟨rfl,bel⟩
    have b1:=Zb bel hbW
    clear bel
    go_wp2
    go_ret
    exact ⟨Zd HX.out.symm,b1⟩
   ·have HX:=Fs (show Qh (l.map RM.d) d xn 0 1=false by rw [HO.out];simp [p2])
    have f2:decide (0≤it)=false:=Fx (by rw [HIT.out];exact p2)
    clear p2
    go_enter func68,ntmps68
    go_wp2_with fail
    rw [←hW0]
    clear hW0
    refine (HI.out _ hbW).mono ?_
    rintro e w1 ⟨rfl,bel⟩
    have b1:=Zb bel hbW
    clear bel
    go_wp2
    go_ret
    exact ⟨Zd HX.out.symm,b1⟩
  ·have HX:=Fs (show Qh (l.map RM.d) d xn 0 ni=false by rw [HO.out];simp [p1])
   have f1:((ni:Int)==1)=false:=beq_eq_false_iff_ne.2 (by omega)
   have g1:(ni==1)=false:=beq_eq_false_iff_ne.2 p1
   clear p1
   go_enter func68,ntmps68
   go_wp2
   go_ret
   exact ⟨Zd HX.out.symm,by first|exact hbW|(rw [←hW0];exact hbW)⟩
 ·have HX:=Fs (show Qh (l.map RM.d) d xn nb ni=false by rw [HO.out];simp [p0])
  have f0:((nb:Int)==0)=false:=beq_eq_false_iff_ne.2 (by omega)
  have g0:(nb==0)=false:=beq_eq_false_iff_ne.2 p0
  clear p0
  go_enter func68,ntmps68
  go_wp2
  go_ret
  exact ⟨Zd HX.out.symm,by first|exact hbW|(rw [←hW0];exact hbW)⟩
theorem l9Own_8 (vD:Value) (l:List RM) (r:RM) (x:VM) (B:Nat) (w:World) (h:Qz w B vD l) (hB:B≤w.heap.size) (ok:∀r∈l,r.d.ok) (hr:r.rd w B) (hrk:r.d.ok) (sm:r.d.small 1048576) (hk:Zp (l.map RM.d) r.d=true) (hx:x.rd w B) (hbl:x.b.length≤4194304) (hil:x.items.length≤4194304) (q:r.d.kind=8):
  Calls prog 68 #[.agg #[vD],Ja r,Qs x] w fun e w'=> e= .returned (.bool (Qh (l.map RM.d) r.d x.n x.b.length x.items.length))∧Below w.heap.size w w':=by
 obtain ⟨A,c,rfl,hc,hm, -⟩:=h.open_
 unfold maxLen at hm
 obtain ⟨Ab,cb,eb, -⟩:=hr.b.open_
 obtain ⟨An,cn,en, -⟩:=hr.n.one
 obtain ⟨At,ct,et, -⟩:=hr.t.one
 obtain ⟨Ak,ck,ek,hck,hmk,hkc⟩:=hr.k.one
 have s4:=sm.kids
 obtain ⟨xn,xb,xvb,xvi,L⟩:=x
 obtain ⟨Ax,cx,ex, -⟩:=hx.bytes.open_
 obtain ⟨Ay,cy,ey, -⟩:=hx.its.open_
 simp only [VM.vb_mk,VM.b_mk,VM.vi_mk,VM.items_mk,VM.n_mk] at*
 subst ex ey
 unfold Ja at*
 rw [eb,en,et,ek]
 clear eb en et ek hx h hr sm
 show Calls prog 68 #[_,_, .agg #[.int .i64 xn, .slice Ax xb.length cx, .slice Ay L.length cy]] w _
 generalize xb.length=nb at*
 generalize L.length=ni at*
 have HO:=Fs (own_8 (D:=l.map RM.d) (n:=xn) (nb:=nb) (ni:=ni) q)
 generalize r.d=d at*
 rw [q]
 obtain ⟨W0,hW0⟩:∃W0,W0=((w.alloc (.cells #[.slice A l.length c] 26)).alloc (.cells #[.string d.name, .int .i64 8, .int .i64 d.size, .bool d.little, .slice Ab d.bytes.length cb, .slice An d.names.length cn, .slice At d.tags.length ct, .slice Ak d.kids.length ck] 50)).alloc (.cells #[.int .i64 xn, .slice Ax nb cx, .slice Ay ni cy] 29):=⟨_,rfl⟩
 have hbW:Below w.heap.size w W0:=by rw [hW0];exact (((Fv w.heap.size w).alloc (Fu _) _).alloc (by simp) _).alloc (by simp;omega) _
 have y0:W0.cell? ⟨w.heap.size,0,none⟩=some (.slice A l.length c):=by rw [hW0];simp [go_sem]
 have v0:W0.cell? ⟨w.heap.size+1+1,0,none⟩=some (.int .i64 xn):=by rw [hW0];simp [go_sem]
 have v1:W0.cell? ⟨w.heap.size+1+1,1,none⟩=some (.slice Ax nb cx):=by rw [hW0];simp [go_sem]
 have v2:W0.cell? ⟨w.heap.size+1+1,2,none⟩=some (.slice Ay ni cy):=by rw [hW0];simp [go_sem]
 have u2:W0.cell? ⟨w.heap.size+1,2,none⟩=some (.int .i64 d.size):=by rw [hW0];simp [go_sem]
 have u7:W0.cell? ⟨w.heap.size+1,7,none⟩=some (.slice Ak d.kids.length ck):=by rw [hW0];simp [go_sem]
 clear hkc
 by_cases p0:xn=0
 ·subst p0
  by_cases p1:nb=0
  ·subst p1
   by_cases p2:ni≤1
   ·have HX:=Fs (show Qh (l.map RM.d) d 0 0 ni=true by rw [HO.out];simp [p2])
    have f2:decide ((ni:Int)≤1)=true:=Fy (by omega)
    have g2:decide (ni≤1)=true:=Fy p2
    clear p2
    go_enter func68,ntmps68
    go_wp2
    go_ret
    exact ⟨Zd HX.out.symm,by first|exact hbW|(rw [←hW0];exact hbW)⟩
   ·have HX:=Fs (show Qh (l.map RM.d) d 0 0 ni=false by rw [HO.out];simp [p2])
    have f2:decide ((ni:Int)≤1)=false:=Fx (by omega)
    have g2:decide (ni≤1)=false:=Fx p2
    clear p2
    go_enter func68,ntmps68
    go_wp2
    go_ret
    exact ⟨Zd HX.out.symm,by first|exact hbW|(rw [←hW0];exact hbW)⟩
  ·have HX:=Fs (show Qh (l.map RM.d) d 0 nb ni=false by rw [HO.out];simp [p1])
   have f1:((nb:Int)==0)=false:=beq_eq_false_iff_ne.2 (by omega)
   have g1:(nb==0)=false:=beq_eq_false_iff_ne.2 p1
   clear p1
   go_enter func68,ntmps68
   go_wp2
   go_ret
   exact ⟨Zd HX.out.symm,by first|exact hbW|(rw [←hW0];exact hbW)⟩
 ·have HX:=Fs (show Qh (l.map RM.d) d xn nb ni=false by rw [HO.out];simp [p0])
  have f0:(xn==0)=false:=beq_eq_false_iff_ne.2 p0
  clear p0
  go_enter func68,ntmps68
  go_wp2
  go_ret
  exact ⟨Zd HX.out.symm,by first|exact hbW|(rw [←hW0];exact hbW)⟩
theorem l9Own_9 (vD:Value) (l:List RM) (r:RM) (x:VM) (B:Nat) (w:World) (h:Qz w B vD l) (hB:B≤w.heap.size) (ok:∀r∈l,r.d.ok) (hr:r.rd w B) (hrk:r.d.ok) (sm:r.d.small 1048576) (hk:Zp (l.map RM.d) r.d=true) (hx:x.rd w B) (hbl:x.b.length≤4194304) (hil:x.items.length≤4194304) (q:r.d.kind=9):
  Calls prog 68 #[.agg #[vD],Ja r,Qs x] w fun e w'=> e= .returned (.bool (Qh (l.map RM.d) r.d x.n x.b.length x.items.length))∧Below w.heap.size w w':=by
 obtain ⟨A,c,rfl,hc,hm, -⟩:=h.open_
 unfold maxLen at hm
 obtain ⟨Ab,cb,eb, -⟩:=hr.b.open_
 obtain ⟨An,cn,en, -⟩:=hr.n.one
 obtain ⟨At,ct,et, -⟩:=hr.t.one
 obtain ⟨Ak,ck,ek,hck,hmk,hkc⟩:=hr.k.one
 have s4:=sm.kids
 obtain ⟨xn,xb,xvb,xvi,L⟩:=x
 obtain ⟨Ax,cx,ex, -⟩:=hx.bytes.open_
 obtain ⟨Ay,cy,ey, -⟩:=hx.its.open_
 simp only [VM.vb_mk,VM.b_mk,VM.vi_mk,VM.items_mk,VM.n_mk] at*
 subst ex ey
 unfold Ja at*
 rw [eb,en,et,ek]
 clear eb en et ek hx h hr sm
 show Calls prog 68 #[_,_, .agg #[.int .i64 xn, .slice Ax xb.length cx, .slice Ay L.length cy]] w _
 generalize xb.length=nb at*
 generalize L.length=ni at*
 have HO:=Fs (own_9 (D:=l.map RM.d) (n:=xn) (nb:=nb) (ni:=ni) q)
 generalize r.d=d at*
 rw [q]
 obtain ⟨W0,hW0⟩:∃W0,W0=((w.alloc (.cells #[.slice A l.length c] 26)).alloc (.cells #[.string d.name, .int .i64 9, .int .i64 d.size, .bool d.little, .slice Ab d.bytes.length cb, .slice An d.names.length cn, .slice At d.tags.length ct, .slice Ak d.kids.length ck] 50)).alloc (.cells #[.int .i64 xn, .slice Ax nb cx, .slice Ay ni cy] 29):=⟨_,rfl⟩
 have hbW:Below w.heap.size w W0:=by rw [hW0];exact (((Fv w.heap.size w).alloc (Fu _) _).alloc (by simp) _).alloc (by simp;omega) _
 have y0:W0.cell? ⟨w.heap.size,0,none⟩=some (.slice A l.length c):=by rw [hW0];simp [go_sem]
 have v0:W0.cell? ⟨w.heap.size+1+1,0,none⟩=some (.int .i64 xn):=by rw [hW0];simp [go_sem]
 have v1:W0.cell? ⟨w.heap.size+1+1,1,none⟩=some (.slice Ax nb cx):=by rw [hW0];simp [go_sem]
 have v2:W0.cell? ⟨w.heap.size+1+1,2,none⟩=some (.slice Ay ni cy):=by rw [hW0];simp [go_sem]
 have u2:W0.cell? ⟨w.heap.size+1,2,none⟩=some (.int .i64 d.size):=by rw [hW0];simp [go_sem]
 have u7:W0.cell? ⟨w.heap.size+1,7,none⟩=some (.slice Ak d.kids.length ck):=by rw [hW0];simp [go_sem]
 clear hkc
 by_cases p0:xn=0
 ·subst p0
  by_cases p1:nb=0
  ·subst p1
   by_cases p2:ni=1
   ·subst p2
    have HX:=Fs (show Qh (l.map RM.d) d 0 0 1=true by rw [HO.out];simp)
    go_enter func68,ntmps68
    go_wp2
    go_ret
    exact ⟨Zd HX.out.symm,by first|exact hbW|(rw [←hW0];exact hbW)⟩
   ·have HX:=Fs (show Qh (l.map RM.d) d 0 0 ni=false by rw [HO.out];simp [p2])
    have f2:((ni:Int)==1)=false:=beq_eq_false_iff_ne.2 (by omega)
    have g2:(ni==1)=false:=beq_eq_false_iff_ne.2 p2
    clear p2
    go_enter func68,ntmps68
    go_wp2
    go_ret
    exact ⟨Zd HX.out.symm,by first|exact hbW|(rw [←hW0];exact hbW)⟩
  ·have HX:=Fs (show Qh (l.map RM.d) d 0 nb ni=false by rw [HO.out];simp [p1])
   have f1:((nb:Int)==0)=false:=beq_eq_false_iff_ne.2 (by omega)
   have g1:(nb==0)=false:=beq_eq_false_iff_ne.2 p1
   clear p1
   go_enter func68,ntmps68
   go_wp2
   go_ret
   exact ⟨Zd HX.out.symm,by first|exact hbW|(rw [←hW0];exact hbW)⟩
 ·have HX:=Fs (show Qh (l.map RM.d) d xn nb ni=false by rw [HO.out];simp [p0])
  have f0:(xn==0)=false:=beq_eq_false_iff_ne.2 p0
  clear p0
  go_enter func68,ntmps68
  go_wp2
  go_ret
  exact ⟨Zd HX.out.symm,by first|exact hbW|(rw [←hW0];exact hbW)⟩
theorem l9Own_10 (vD:Value) (l:List RM) (r:RM) (x:VM) (B:Nat) (w:World) (h:Qz w B vD l) (hB:B≤w.heap.size) (ok:∀r∈l,r.d.ok) (hr:r.rd w B) (hrk:r.d.ok) (sm:r.d.small 1048576) (hk:Zp (l.map RM.d) r.d=true) (hx:x.rd w B) (hbl:x.b.length≤4194304) (hil:x.items.length≤4194304) (q:r.d.kind=10):
  Calls prog 68 #[.agg #[vD],Ja r,Qs x] w fun e w'=> e= .returned (.bool (Qh (l.map RM.d) r.d x.n x.b.length x.items.length))∧Below w.heap.size w w':=by
 obtain ⟨A,c,rfl,hc,hm, -⟩:=h.open_
 unfold maxLen at hm
 obtain ⟨Ab,cb,eb, -⟩:=hr.b.open_
 obtain ⟨An,cn,en, -⟩:=hr.n.one
 obtain ⟨At,ct,et, -⟩:=hr.t.one
 obtain ⟨Ak,ck,ek,hck,hmk,hkc⟩:=hr.k.one
 have s4:=sm.kids
 obtain ⟨xn,xb,xvb,xvi,L⟩:=x
 obtain ⟨Ax,cx,ex, -⟩:=hx.bytes.open_
 obtain ⟨Ay,cy,ey, -⟩:=hx.its.open_
 simp only [VM.vb_mk,VM.b_mk,VM.vi_mk,VM.items_mk,VM.n_mk] at*
 subst ex ey
 unfold Ja at*
 rw [eb,en,et,ek]
 clear eb en et ek hx h hr sm
 show Calls prog 68 #[_,_, .agg #[.int .i64 xn, .slice Ax xb.length cx, .slice Ay L.length cy]] w _
 generalize xb.length=nb at*
 generalize L.length=ni at*
 have HO:=Fs (own_10 (D:=l.map RM.d) (n:=xn) (nb:=nb) (ni:=ni) q)
 generalize r.d=d at*
 rw [q]
 obtain ⟨W0,hW0⟩:∃W0,W0=((w.alloc (.cells #[.slice A l.length c] 26)).alloc (.cells #[.string d.name, .int .i64 10, .int .i64 d.size, .bool d.little, .slice Ab d.bytes.length cb, .slice An d.names.length cn, .slice At d.tags.length ct, .slice Ak d.kids.length ck] 50)).alloc (.cells #[.int .i64 xn, .slice Ax nb cx, .slice Ay ni cy] 29):=⟨_,rfl⟩
 have hbW:Below w.heap.size w W0:=by rw [hW0];exact (((Fv w.heap.size w).alloc (Fu _) _).alloc (by simp) _).alloc (by simp;omega) _
 have y0:W0.cell? ⟨w.heap.size,0,none⟩=some (.slice A l.length c):=by rw [hW0];simp [go_sem]
 have v0:W0.cell? ⟨w.heap.size+1+1,0,none⟩=some (.int .i64 xn):=by rw [hW0];simp [go_sem]
 have v1:W0.cell? ⟨w.heap.size+1+1,1,none⟩=some (.slice Ax nb cx):=by rw [hW0];simp [go_sem]
 have v2:W0.cell? ⟨w.heap.size+1+1,2,none⟩=some (.slice Ay ni cy):=by rw [hW0];simp [go_sem]
 have u2:W0.cell? ⟨w.heap.size+1,2,none⟩=some (.int .i64 d.size):=by rw [hW0];simp [go_sem]
 have u7:W0.cell? ⟨w.heap.size+1,7,none⟩=some (.slice Ak d.kids.length ck):=by rw [hW0];simp [go_sem]
 clear hkc
 by_cases p0:xn=0
 ·subst p0
  by_cases p1:nb≤400
  ·by_cases p2:ni=0
   ·subst p2
    have HX:=Fs (show Qh (l.map RM.d) d 0 nb 0=true by rw [HO.out];simp [p1])
    have f1:decide ((nb:Int)≤400)=true:=Fy (by omega)
    have g1:decide (nb≤400)=true:=Fy p1
    clear p1
    go_enter func68,ntmps68
    go_wp2
    go_ret
    exact ⟨Zd HX.out.symm,by first|exact hbW|(rw [←hW0];exact hbW)⟩
   ·have HX:=Fs (show Qh (l.map RM.d) d 0 nb ni=false by rw [HO.out];simp [p1,p2])
    have f1:decide ((nb:Int)≤400)=true:=Fy (by omega)
    have g1:decide (nb≤400)=true:=Fy p1
    have f2:((ni:Int)==0)=false:=beq_eq_false_iff_ne.2 (by omega)
    have g2:(ni==0)=false:=beq_eq_false_iff_ne.2 p2
    clear p1 p2
    go_enter func68,ntmps68
    go_wp2
    go_ret
    exact ⟨Zd HX.out.symm,by first|exact hbW|(rw [←hW0];exact hbW)⟩
  ·have HX:=Fs (show Qh (l.map RM.d) d 0 nb ni=false by rw [HO.out];simp [p1])
   have f1:decide ((nb:Int)≤400)=false:=Fx (by omega)
   have g1:decide (nb≤400)=false:=Fx p1
   clear p1
   go_enter func68,ntmps68
   go_wp2
   go_ret
   exact ⟨Zd HX.out.symm,by first|exact hbW|(rw [←hW0];exact hbW)⟩
 ·have HX:=Fs (show Qh (l.map RM.d) d xn nb ni=false by rw [HO.out];simp [p0])
  have f0:(xn==0)=false:=beq_eq_false_iff_ne.2 p0
  clear p0
  go_enter func68,ntmps68
  go_wp2
  go_ret
  exact ⟨Zd HX.out.symm,by first|exact hbW|(rw [←hW0];exact hbW)⟩
theorem l9Own_any (vD:Value) (l:List RM) (r:RM) (x:VM) (B:Nat) (w:World) (h:Qz w B vD l) (hB:B≤w.heap.size) (ok:∀r∈l,r.d.ok) (hr:r.rd w B) (hrk:r.d.ok) (sm:r.d.small 1048576) (hk:Zp (l.map RM.d) r.d=true) (hx:x.rd w B) (hbl:x.b.length≤4194304) (hil:x.items.length≤4194304):
  Calls prog 68 #[.agg #[vD],Ja r,Qs x] w fun e w'=> e= .returned (.bool (Qh (l.map RM.d) r.d x.n x.b.length x.items.length))∧Below w.heap.size w w':=by
 have hq:=Ok hk
 rcases hq with q|q|q|q|q|q|q|q|q|q
 ·exact l9Own_1 vD l r x B w h hB ok hr hrk sm hk hx hbl hil q
 ·exact l9Own_2 vD l r x B w h hB ok hr hrk sm hk hx hbl hil q
 ·exact l9Own_3 vD l r x B w h hB ok hr hrk sm hk hx hbl hil q
 ·exact l9Own_4 vD l r x B w h hB ok hr hrk sm hk hx hbl hil q
 ·exact l9Own_5 vD l r x B w h hB ok hr hrk sm hk hx hbl hil q
 ·exact l9Own_6 vD l r x B w h hB ok hr hrk sm hk hx hbl hil q
 ·exact l9Own_7 vD l r x B w h hB ok hr hrk sm hk hx hbl hil q
 ·exact l9Own_8 vD l r x B w h hB ok hr hrk sm hk hx hbl hil q
 ·exact l9Own_9 vD l r x B w h hB ok hr hrk sm hk hx hbl hil q
 ·exact l9Own_10 vD l r x B w h hB ok hr hrk sm hk hx hbl hil q
end Go.Proofs.YteldgdelmaeokaaGreatDoor
