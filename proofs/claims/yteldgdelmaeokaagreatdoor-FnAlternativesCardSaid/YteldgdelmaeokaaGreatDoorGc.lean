/- Out of DescX, DescY, DescY2: the walks and plain laws that the claim needs. No condition but those that each theorem names. -/
import Derived.Test.YteldgdelmaeokaaGreatDoorGb
import Derived.WalkSpells
import Derived.WalkLawsBesides
import Derived.BigQuiet
import Derived.Deep.QuietTactic
import Derived.Deep.RegionHeld3
set_option linter.unusedSimpArgs false
set_option linter.unusedVariables false
set_option maxHeartbeats 8000000
set_option maxRecDepth 100000
namespace Go.Proofs.YteldgdelmaeokaaGreatDoor
open Go.Proofs.Tryz Go.RowKit
theorem Va.take {w:World} {B c:Nat} {A:Option Addr} {l:List ByteArray} (h:Va w B (.slice A l.length c) l) (k:Nat) (hk:k≤l.length) (hc:l.length≤c) (hm:c≤maxLen):Va w B (.slice (cutA A c 0 1) (k - 0) (c - 0)) (l.take k):=by
 have:=Sl.cutA h 0 k c (Eb _) hk (by omega) hm (by decide)
 unfold Va
 rw [List.length_take,Nat.min_eq_left hk,List.map_take]
 simpa using this
theorem l4Names_any (v:Value) (l:List ByteArray) (B:Nat) (w:World) (h:Va w B v l) (hs:∀s∈l,s.size≤maxLen):
  Calls prog 100 #[v] w (Quiet w (.bool (Jq l))):=by
 obtain ⟨A,c,rfl,hc,hm,hcell⟩:=h.one
 have hm':=hm
 unfold maxLen at hm
 have HL:=Fs h
 clear h
 go_enter func100,ntmps100
 go_wp2
 go_loopw [3] (fun i wr=> ∃k n:Nat,k≤l.length∧i= .int .i64 k∧wr=w.drewN n∧Jg (Il l) k=true) (fun i _=> l.length - (intOf i).toNat)
 case atStart=> exact ⟨0,0,Eb _,rfl,rfl,rfl⟩
 case round=>
  obtain ⟨k,n,hk,rfl,hw,hall⟩:=hrel
  have HW:=Fs hw
  by_cases hlt:k < l.length
  ·obtain ⟨b,off,rfl,hbB,hc0⟩:=hcell k hlt
   have hcr:wr.cell? ⟨b,off+k,none⟩=some (.string l[k]):=by rw [hw];exact hc0
   have hsl:Va wr B (.slice (cutA (some ⟨b,off,none⟩) c 0 1) (k - 0) (c - 0)) (l.take k):=by rw [hw];exact Sl.drewN (HL.out.take k hk hc hm') n
   clear hc0 hw
   have hn:=Ki l k hlt
   have hno:=Vh (Il l) k l.length hlt
   have hst:=Xf (Il l) k hall
   have HS:∀m,Calls prog 79 #[.string l[k]] (wr.drewN m) fun e w'=> e= .returned (.bool (Jc l[k]))∧w'=wr.drewN m:=fun m=> (Jn l[k] _ (hs _ (Fw hlt))).mono fun e w' ⟨h1,h2⟩=> ⟨h1,h2.symm⟩
   have HC:∀m,Calls prog 106 #[.slice (cutA (some ⟨b,off,none⟩) c 0 1) (k - 0) (c - 0), .string l[k]] (wr.drewN m) fun e w'=> e= .returned (.bool (Ry (l.take k) l[k]))∧w'=wr.drewN m:=fun m=>
    (La (.slice (cutA (some ⟨b,off,none⟩) c 0 1) (k - 0) (c - 0)) (l.take k) l[k] B _ (Sl.drewN hsl m)).mono fun e w' ⟨h1,h2⟩=> ⟨h1,h2.symm⟩
   have hcut:=Ig (P:=prog) underlying47 sizeOf9 (some ⟨b,off,none⟩) l.length c k k rfl (by omega)
   generalize l[k]=y at*
   generalize Ry (l.take k) y=t at*
   clear hcell
   have HCR:=Fs hcut
   cases hi:Jc y
   ·have HX:=Fs (show Jq l=false by unfold Jq;rw [hno (by rw [hn,hi];rfl)];rfl)
    rw [hi] at HS
    have QS:=Fs HS
    clear hsl hn hno hst hall HC hi HS hcut
    go_wp2_with fail
    go_quiet (first|(go_at_call 79;refine Calls.quiet_of_same (QS.out _)))
    go_wp2
    go_ret
    exact ⟨Zd HX.out.symm,_,by rw [HW.out];exact World.drewN_drewN _ _ _⟩
   ·rw [hi] at HS
    have QS:=Fs HS
    have QC:=Fs HC
    cases t
    ·have HX:=Fs (hst (by rw [hn,hi];rfl))
     clear hsl hn hno hst hall HC hi HS
     go_wp2_with fail
     go_quiet (first|(go_at_call 79;refine Calls.quiet_of_same (QS.out _))|(go_at_call 106;refine Calls.quiet_of_same (QC.out _)))
     go_wp2
     go_roundw
     case rel=> exact ⟨k+1,_,by omega,by go_num,by rw [HW.out];exact World.drewN_drewN _ _ _,HX.out⟩
     case measure=> simp [intOf];omega
    ·have HX:=Fs (show Jq l=false by unfold Jq;rw [hno (by rw [hn,hi];rfl)];rfl)
     clear hsl hn hno hst hall HC hi HS
     go_wp2_with fail
     go_quiet (first|(go_at_call 79;refine Calls.quiet_of_same (QS.out _))|(go_at_call 106;refine Calls.quiet_of_same (QC.out _)))
     go_wp2
     go_ret
     exact ⟨Zd HX.out.symm,_,by rw [HW.out];exact World.drewN_drewN _ _ _⟩
  ·have hkl:k=l.length:=by omega
   have HX:=Fs (show Jq l=Xs l.length 1 8 by unfold Jq;rw [←hkl,hall];rfl)
   clear hall hkl hcell hw
   go_wp2_with fail
   refine (Qi _ _ _ _).mono ?_
   rintro e w1 ⟨rfl,rfl⟩
   go_wp2
   go_ret
   exact ⟨Zd HX.out.symm,_,HW.out⟩
theorem Zz {B:Nat} {a w:World} (h:Below B a w) {b o:Nat} (hb:b < B) {u:Value} (hc:a.cell? ⟨b,o,none⟩=some u):w.cell? ⟨b,o,none⟩=some u:=(h.cell (p:=⟨b,o,none⟩) hb).trans hc
theorem l4Tags_any (v:Value) (l:List RM) (r:RM) (B:Nat) (w:World) (h:Qz w B v l) (hB:B≤w.heap.size) (ok:∀r∈l,r.d.ok) (hr:r.rd w B) (hk:r.d.ok) (hsm:r.d.tags.length≤1048576) (hsk:r.d.kids.length≤1048576):
  Calls prog 101 #[.agg #[v],Ja r] w fun e w'=> e= .returned (.bool (Yu (l.map RM.d) r.d))∧Below w.heap.size w w':=by
 have hLIM:∀W i,Below w.heap.size w W→Qa i→Calls prog 82 #[.agg #[v], .int .i64 i] W fun e w'=> e= .returned (.int .i64 (Zr (l.map RM.d) i))∧Below W.heap.size W w':=fun W i hb hi=>
  Vc v l i B W (h.below (hb.mono hB)) (by have:=hb.size;omega) hi ok
 have hlb:=fun i=> Ip (l.map RM.d) i
 generalize hD:l.map RM.d=D at*
 clear hD
 obtain ⟨⟨name,kind,size,little,bytes,names,tags,kids⟩,vb,vn,vt,vk⟩:=r
 have h1:Xu w B vb bytes:=hr.b
 have h2:Va w B vn names:=hr.n
 have h3:Yt w B vt tags:=hr.t
 have h4:Yt w B vk kids:=hr.k
 have hkt:∀a∈tags,Qa a:=hk.tags
 have hkk:∀a∈kids,Qa a:=hk.kids
 obtain ⟨Ad,cd,rfl, -⟩:=h.open_
 obtain ⟨Ab,cb,rfl, -⟩:=h1.open_
 obtain ⟨An,cn,rfl, -⟩:=h2.one
 obtain ⟨At,ct,rfl,ht1,ht2,x3⟩:=h3.one
 obtain ⟨Ak,ck,rfl,hk1,hk2,x4⟩:=h4.one
 clear h hr hk h1 h2 h3 h4
 unfold Ja
 simp only at hsm hsk ⊢
 unfold maxLen at ht2 hk2
 have HLIM:=Fs hLIM
 clear hLIM
 have hb2:Below w.heap.size w ((w.alloc (.cells #[.slice Ad l.length cd] 26)).alloc (.cells #[.string name, .int .i64 kind, .int .i64 size, .bool little, .slice Ab bytes.length cb, .slice An names.length cn, .slice At tags.length ct, .slice Ak kids.length ck] 50)):=(((Fv _ _).alloc (Fu _) _).alloc (by simp) _)
 cases e1:((kids.length:Int)==tags.length+1)
 ·have e1':((kids.length:Int) !=tags.length+1)=true:=by rw [bne,e1];rfl
  have H:=Fs (show Yu D ⟨name,kind,size,little,bytes,names,tags,kids⟩=false by unfold Yu;simp only;rw [e1];rfl)
  clear x3 x4
  go_enter func101,ntmps101
  go_wp2
  go_ret
  exact ⟨Zd H.out.symm,hb2⟩
 ·have e1':((kids.length:Int) !=tags.length+1)=false:=by rw [bne,e1];rfl
  cases e2:Xs tags.length 1 8
  ·have H:=Fs (show Yu D ⟨name,kind,size,little,bytes,names,tags,kids⟩=false by unfold Yu;simp only;rw [e1,e2];rfl)
   have HE:=Fs e2
   clear x3 x4 e2
   go_enter func101,ntmps101
   go_wp2_with (go_at_call 30;refine (Qi _ _ _ _).mono ?_;rintro e w1 ⟨rfl,rfl⟩;rw [HE.out])
   go_ret
   exact ⟨Zd H.out.symm,hb2⟩
  ·have HO:=Fs (show Yu D ⟨name,kind,size,little,bytes,names,tags,kids⟩=Jg (Rt (Zr D (Xt ⟨name,kind,size,little,bytes,names,tags,kids⟩ 0)) tags) tags.length by unfold Yu;simp only;rw [e1,e2];rfl)
   have hkl:1≤kids.length:=by have:=beq_iff_eq.1 e1;omega
   have hkz:0 < kids.length:=hkl
   have hkz2:(0:Int) < kids.length:=by omega
   have h8:tags.length≤8:=by have:=Jv.1 e2;omega
   obtain ⟨bk,ok,rfl,hbk,ck0⟩:=x4 0 hkl
   have hi0:=hkk _ (Fw hkl)
   have hkid:Xt ⟨name,kind,size,little,bytes,names,tags,kids⟩ 0=kids[0]:=Jb ⟨name,kind,size,little,bytes,names,tags,kids⟩ 0 (show 0 < kids.length from hkl)
   rw [hkid] at HO
   generalize kids[0]=k0 at*
   have HLB:=hlb k0
   have HE:=Fs e2
   have hLM:∀W,Below w.heap.size w W→Calls prog 82 #[.agg #[.slice Ad l.length cd], .int .i64 k0] W fun e w'=> e= .returned (.int .i64 (Zr D k0))∧Below W.heap.size W w':=fun W hb=> HLIM.out W k0 hb hi0
   generalize Zr D k0=lim at*
   have HLM:=Fs hLM
   clear e2 hkk hlb HLIM hkid hLM hi0
   have hck:=Zz hb2 (show bk < w.heap.size by omega) ck0
   have c0:((w.alloc (.cells #[.slice Ad l.length cd] 26)).alloc (.cells #[.string name, .int .i64 kind, .int .i64 size, .bool little, .slice Ab bytes.length cb, .slice An names.length cn, .slice At tags.length ct, .slice (some ⟨bk,ok,none⟩) kids.length ck] 50)).cell? ⟨w.heap.size,0,none⟩=some (.slice Ad l.length cd):=by simp [go_sem]
   have c6:((w.alloc (.cells #[.slice Ad l.length cd] 26)).alloc (.cells #[.string name, .int .i64 kind, .int .i64 size, .bool little, .slice Ab bytes.length cb, .slice An names.length cn, .slice At tags.length ct, .slice (some ⟨bk,ok,none⟩) kids.length ck] 50)).cell? ⟨w.heap.size+1,6,none⟩=some (.slice At tags.length ct):=by simp [go_sem]
   have c7:((w.alloc (.cells #[.slice Ad l.length cd] 26)).alloc (.cells #[.string name, .int .i64 kind, .int .i64 size, .bool little, .slice Ab bytes.length cb, .slice An names.length cn, .slice At tags.length ct, .slice (some ⟨bk,ok,none⟩) kids.length ck] 50)).cell? ⟨w.heap.size+1,7,none⟩=some (.slice (some ⟨bk,ok,none⟩) kids.length ck):=by simp [go_sem]
   have hz:((w.alloc (.cells #[.slice Ad l.length cd] 26)).alloc (.cells #[.string name, .int .i64 kind, .int .i64 size, .bool little, .slice Ab bytes.length cb, .slice An names.length cn, .slice At tags.length ct, .slice (some ⟨bk,ok,none⟩) kids.length ck] 50)).heap.size=w.heap.size+2:=by simp
   go_enter func101,ntmps101
   go_wp2_with (go_at_call 30;refine (Qi _ _ _ _).mono ?_;rintro e w1 ⟨rfl,rfl⟩;rw [HE.out])
   generalize ((w.alloc (.cells #[.slice Ad l.length cd] 26)).alloc (.cells #[.string name, .int .i64 kind, .int .i64 size, .bool little, .slice Ab bytes.length cb, .slice An names.length cn, .slice At tags.length ct, .slice (some ⟨bk,ok,none⟩) kids.length ck] 50))=W0 at*
   go_loopw [5] (fun i wr=> ∃k:Nat,k≤tags.length∧i= .int .i64 k∧Below W0.heap.size W0 wr∧Jg (Rt lim tags) k=true) (fun i _=> tags.length - (intOf i).toNat)
   case atStart=> exact ⟨0,Eb _,rfl,Fv _ _,rfl⟩
   case round=>
    obtain ⟨k,hkl2,rfl,hb,hall⟩:=hrel
    have d0:=Zz hb (show w.heap.size < W0.heap.size by omega) c0
    have d6:=Zz hb (show w.heap.size+1 < W0.heap.size by omega) c6
    have d7:=Zz hb (show w.heap.size+1 < W0.heap.size by omega) c7
    have dk:=Zz hb (show bk < W0.heap.size by omega) hck
    by_cases hlt:k < tags.length
    ·obtain ⟨bt,ot,rfl,hbt,ct0⟩:=x3 k hlt
     have dt:=Zz hb (show bt < W0.heap.size by omega) (Zz hb2 (show bt < w.heap.size by omega) ct0)
     have hno:=Vh (Rt lim tags) k tags.length hlt
     have hst:=Xf (Rt lim tags) k hall
     have b0:Below w.heap.size w wr.drew:=(hb2.trans (hb.mono (by omega))).drew
     have hbs:=hb.size
     have HB:=Fs hb
     cases hin:Xs tags[k] 0 lim
     ·have hf:Rt lim tags k=false:=by
       cases k with
       |zero=> rw [Uj lim tags hlt,hin]
       |succ j=> rw [Uk lim tags j hlt,hin];rfl
      have HX:=Fs (HO.out.trans (hno hf))
      generalize tags[k]=t at*
      have HT:=Fs hin
      clear x3 ct0 ck0 hck c0 c6 c7 hno hst hin hf hall hb hkt
      go_wp2_with fail
      refine wp_region_held_drew (S:=(fun w9=> w9.cell? ⟨w.heap.size,0,none⟩=some (.slice Ad l.length cd)∧w9.cell? ⟨w.heap.size+1,6,none⟩=some (.slice (some ⟨bt,ot,none⟩) tags.length ct)∧w9.cell? ⟨w.heap.size+1,7,none⟩=some (.slice (some ⟨bk,ok,none⟩) kids.length ck)∧w9.cell? ⟨bk,ok,none⟩=some (.int .i64 k0)∧w9.cell? ⟨bt,ot+k,none⟩=some (.int .i64 t))) (by kernel_rfl) ?_ (fun hHeld=> ?_)
      ·(try dsimp only);exact ⟨d0,d6,d7,dk,dt⟩
      refine Za 0 (some 28) hHeld _ ?_;try go_frame
      refine Za 1 (some 29) hHeld _ ?_;try go_frame
      refine Za 2 (some 30) hHeld _ ?_;try go_frame
      refine Za 3 (some 31) hHeld _ ?_;try go_frame
      refine Za 4 (some 32) hHeld _ ?_;try go_frame
      refine Za 5 (some 33) hHeld _ ?_;try go_frame
      refine Za 6 (some 34) hHeld _ ?_;try go_frame
      refine Za 7 (some 35) hHeld _ ?_;try go_frame
      refine Za 8 (some 36) hHeld _ ?_;try go_frame
      refine Za 9 (some 37) hHeld _ ?_;try go_frame
      refine Zh 10 (fun K hK=> ?_)
      go_simp
      refine (HLM.out _ b0).mono ?_;rintro e w2 ⟨rfl,bel⟩
      (try go_wp2_with fail)
      refine hK.out _ _ ?_ (fun hHeld=> ?_)
      ·(try dsimp only);exact ⟨Ec bel d0,Ec bel d6,Ec bel d7,Ec bel dk,Ec bel dt⟩
      clear hK K
      try go_frame
      refine Zh 11 (fun K hK=> ?_)
      go_simp
      refine (Qi _ _ _ _).mono ?_;rintro e w3 ⟨rfl,rfl⟩;rw [HT.out]
      (try go_wp2_with fail)
      refine hK.out _ _ ?_ (fun hHeld=> ?_)
      ·(try dsimp only);exact ⟨Ec bel d0,Ec bel d6,Ec bel d7,Ec bel dk,Ec bel dt⟩
      clear hK K
      try go_frame
      refine Za 12 (some 40) hHeld _ ?_;try go_frame
      refine Za 13 (some 41) hHeld _ ?_;try go_frame
      refine Zl 14 (some 42) hHeld ?_;try go_frame
      refine Zl 15 (some 43) hHeld ?_;try go_frame
      refine Zl 16 (some 44) hHeld ?_;try go_frame
      refine Zl 17 (some 45) hHeld ?_;try go_frame
      refine Zl 18 (some 46) hHeld ?_;try go_frame
      refine Zl 19 (some 47) hHeld ?_;try go_frame
      refine Zl 20 (some 48) hHeld ?_;try go_frame
      refine Zl 21 (some 49) hHeld ?_;try go_frame
      refine Zl 22 (some 50) hHeld ?_;try go_frame
      refine Zl 23 (some 51) hHeld ?_;try go_frame
      refine Zl 24 (some 52) hHeld ?_;try go_frame
      refine Zl 25 (some 53) hHeld ?_;try go_frame
      refine Zl 26 (some 54) hHeld ?_;try go_frame
      refine Zl 27 (some 55) hHeld ?_;try go_frame
      refine Zl 28 (some 56) hHeld ?_;try go_frame
      refine Zl 29 (some 57) hHeld ?_;try go_frame
      refine Za 30 (some 58) hHeld _ ?_;try go_frame
      refine wpAnyH_done (by kernel_rfl) ?_ _
      all_goals (go_wp2;go_ret;exact ⟨Zd HX.out.symm,Zb bel b0⟩)
     ·cases k with
      |zero=>
       have HX:=Fs (hst (by rw [Uj lim tags hlt,hin]))
       rw [Nat.add_zero] at dt
       generalize tags[0]=t at*
       have HT:=Fs hin
       clear x3 ct0 ck0 hck c0 c6 c7 hno hst hin hall hb hkt
       go_wp2_with fail
       refine wp_region_held_drew (S:=(fun w9=> w9.cell? ⟨w.heap.size,0,none⟩=some (.slice Ad l.length cd)∧w9.cell? ⟨w.heap.size+1,6,none⟩=some (.slice (some ⟨bt,ot,none⟩) tags.length ct)∧w9.cell? ⟨w.heap.size+1,7,none⟩=some (.slice (some ⟨bk,ok,none⟩) kids.length ck)∧w9.cell? ⟨bk,ok,none⟩=some (.int .i64 k0)∧w9.cell? ⟨bt,ot,none⟩=some (.int .i64 t))) (by kernel_rfl) ?_ (fun hHeld=> ?_)
       ·(try dsimp only);exact ⟨d0,d6,d7,dk,dt⟩
       refine Za 0 (some 28) hHeld _ ?_;try go_frame
       refine Za 1 (some 29) hHeld _ ?_;try go_frame
       refine Za 2 (some 30) hHeld _ ?_;try go_frame
       refine Za 3 (some 31) hHeld _ ?_;try go_frame
       refine Za 4 (some 32) hHeld _ ?_;try go_frame
       refine Za 5 (some 33) hHeld _ ?_;try go_frame
       refine Za 6 (some 34) hHeld _ ?_;try go_frame
       refine Za 7 (some 35) hHeld _ ?_;try go_frame
       refine Za 8 (some 36) hHeld _ ?_;try go_frame
       refine Za 9 (some 37) hHeld _ ?_;try go_frame
       refine Zh 10 (fun K hK=> ?_)
       go_simp
       refine (HLM.out _ b0).mono ?_;rintro e w2 ⟨rfl,bel⟩
       (try go_wp2_with fail)
       refine hK.out _ _ ?_ (fun hHeld=> ?_)
       ·(try dsimp only);exact ⟨Ec bel d0,Ec bel d6,Ec bel d7,Ec bel dk,Ec bel dt⟩
       clear hK K
       try go_frame
       refine Zh 11 (fun K hK=> ?_)
       go_simp
       refine (Qi _ _ _ _).mono ?_;rintro e w3 ⟨rfl,rfl⟩;rw [HT.out]
       (try go_wp2_with fail)
       refine hK.out _ _ ?_ (fun hHeld=> ?_)
       ·(try dsimp only);exact ⟨Ec bel d0,Ec bel d6,Ec bel d7,Ec bel dk,Ec bel dt⟩
       clear hK K
       try go_frame
       refine Za 12 (some 40) hHeld _ ?_;try go_frame
       refine Za 13 (some 41) hHeld _ ?_;try go_frame
       refine Za 14 (some 42) hHeld _ ?_;try go_frame
       refine Za 15 (some 43) hHeld _ ?_;try go_frame
       refine Za 16 (some 44) hHeld _ ?_;try go_frame
       refine Zl 17 (some 45) hHeld ?_;try go_frame
       refine Zl 18 (some 46) hHeld ?_;try go_frame
       refine Zl 19 (some 47) hHeld ?_;try go_frame
       refine Zl 20 (some 48) hHeld ?_;try go_frame
       refine Zl 21 (some 49) hHeld ?_;try go_frame
       refine Zl 22 (some 50) hHeld ?_;try go_frame
       refine Zl 23 (some 51) hHeld ?_;try go_frame
       refine Zl 24 (some 52) hHeld ?_;try go_frame
       refine Zl 25 (some 53) hHeld ?_;try go_frame
       refine Zl 26 (some 54) hHeld ?_;try go_frame
       refine Zl 27 (some 55) hHeld ?_;try go_frame
       refine Zl 28 (some 56) hHeld ?_;try go_frame
       refine Za 29 (some 57) hHeld _ ?_;try go_frame
       refine Za 30 (some 58) hHeld _ ?_;try go_frame
       refine wpAnyH_done (by kernel_rfl) ?_ _
       all_goals
        go_wp2
        go_roundw
        case rel=> exact ⟨1,by omega,by go_num,HB.out.drew.trans (bel.mono hbs),HX.out⟩
        case measure=> simp [intOf];omega
      |succ j=>
       have hjl:j < tags.length:=by omega
       obtain ⟨bt',ot',ebt,hbt',cp0⟩:=x3 j hjl
       simp only [Option.some.injEq,Addr.mk.injEq] at ebt
       obtain ⟨rfl,rfl, -⟩:=ebt
       have dp:=Zz hb (show bt < W0.heap.size by omega) (Zz hb2 (show bt < w.heap.size by omega) cp0)
       have hsx:=Uk lim tags j hlt
       have hj1:IntKind.i64.wrap ((j:Int)+1 - 1)=(j:Int):=by rw [IntWalk.i64_in _ (by omega)];omega
       have hjp:(0:Int) < ((j+1:Nat):Int):=by omega
       have hj0:(0:Int)≤j:=by omega
       have hj5:IntKind.i64.wrap (j:Int)=(j:Int):=IntWalk.i64_in _ (by omega)
       have hj4:(0:Int)≤(j:Int)+1:=by omega
       have hj2:(j:Int) < tags.length:=by omega
       have hj3:(j:Int)+1 < tags.length:=by omega
       cases hlt':decide (tags[j] < tags[j+1])
       ·have hge:decide (tags[j+1]≤tags[j])=true:=Fy (by have:=of_decide_eq_false hlt';omega)
        have HX:=Fs (HO.out.trans (hno (by rw [hsx,hin,hlt'];rfl)))
        generalize tags[j+1]=t at*
        generalize tags[j]=t' at*
        have HT:=Fs hin
        clear x3 ct0 ck0 hck c0 c6 c7 hno hst hin hall hb hkt cp0 hsx hlt'
        go_wp2_with fail
        refine wp_region_held_drew (S:=(fun w9=> w9.cell? ⟨w.heap.size,0,none⟩=some (.slice Ad l.length cd)∧w9.cell? ⟨w.heap.size+1,6,none⟩=some (.slice (some ⟨bt,ot,none⟩) tags.length ct)∧w9.cell? ⟨w.heap.size+1,7,none⟩=some (.slice (some ⟨bk,ok,none⟩) kids.length ck)∧w9.cell? ⟨bk,ok,none⟩=some (.int .i64 k0)∧w9.cell? ⟨bt,ot+(j+1),none⟩=some (.int .i64 t)∧w9.cell? ⟨bt,ot+j,none⟩=some (.int .i64 t'))) (by kernel_rfl) ?_ (fun hHeld=> ?_)
        ·(try dsimp only);exact ⟨d0,d6,d7,dk,dt,dp⟩
        refine Za 0 (some 28) hHeld _ ?_;try go_frame
        refine Za 1 (some 29) hHeld _ ?_;try go_frame
        refine Za 2 (some 30) hHeld _ ?_;try go_frame
        refine Za 3 (some 31) hHeld _ ?_;try go_frame
        refine Za 4 (some 32) hHeld _ ?_;try go_frame
        refine Za 5 (some 33) hHeld _ ?_;try go_frame
        refine Za 6 (some 34) hHeld _ ?_;try go_frame
        refine Za 7 (some 35) hHeld _ ?_;try go_frame
        refine Za 8 (some 36) hHeld _ ?_;try go_frame
        refine Za 9 (some 37) hHeld _ ?_;try go_frame
        refine Zh 10 (fun K hK=> ?_)
        go_simp
        refine (HLM.out _ b0).mono ?_;rintro e w2 ⟨rfl,bel⟩
        (try go_wp2_with fail)
        refine hK.out _ _ ?_ (fun hHeld=> ?_)
        ·(try dsimp only);exact ⟨Ec bel d0,Ec bel d6,Ec bel d7,Ec bel dk,Ec bel dt,Ec bel dp⟩
        clear hK K
        try go_frame
        refine Zh 11 (fun K hK=> ?_)
        go_simp
        refine (Qi _ _ _ _).mono ?_;rintro e w3 ⟨rfl,rfl⟩;rw [HT.out]
        (try go_wp2_with fail)
        refine hK.out _ _ ?_ (fun hHeld=> ?_)
        ·(try dsimp only);exact ⟨Ec bel d0,Ec bel d6,Ec bel d7,Ec bel dk,Ec bel dt,Ec bel dp⟩
        clear hK K
        try go_frame
        refine Za 12 (some 40) hHeld _ ?_;try go_frame
        refine Za 13 (some 41) hHeld _ ?_;try go_frame
        refine Za 14 (some 42) hHeld _ ?_;try go_frame
        refine Za 15 (some 43) hHeld _ ?_;try go_frame
        refine Za 16 (some 44) hHeld _ ?_;try go_frame
        refine Za 17 (some 45) hHeld _ ?_;try go_frame
        refine Za 18 (some 46) hHeld _ ?_;try go_frame
        refine Za 19 (some 47) hHeld _ ?_;try go_frame
        refine Za 20 (some 48) hHeld _ ?_;try go_frame
        refine Za 21 (some 49) hHeld _ ?_;try go_frame
        refine Za 22 (some 50) hHeld _ ?_;try go_frame
        refine Za 23 (some 51) hHeld _ ?_;try go_frame
        refine Za 24 (some 52) hHeld _ ?_;try go_frame
        refine Za 25 (some 53) hHeld _ ?_;try go_frame
        refine Za 26 (some 54) hHeld _ ?_;try go_frame
        refine Za 27 (some 55) hHeld _ ?_;try go_frame
        refine Za 28 (some 56) hHeld _ ?_;try go_frame
        refine Za 29 (some 57) hHeld _ ?_;try go_frame
        refine Za 30 (some 58) hHeld _ ?_;try go_frame
        refine wpAnyH_done (by kernel_rfl) ?_ _
        all_goals (go_wp2;go_ret;exact ⟨Zd HX.out.symm,Zb bel b0⟩)
       ·have hge:decide (tags[j+1]≤tags[j])=false:=Fx (by have:=of_decide_eq_true hlt';omega)
        have HX:=Fs (hst (by rw [hsx,hin,hlt'];rfl))
        generalize tags[j+1]=t at*
        generalize tags[j]=t' at*
        have HT:=Fs hin
        clear x3 ct0 ck0 hck c0 c6 c7 hno hst hin hall hb hkt cp0 hsx hlt'
        go_wp2_with fail
        refine wp_region_held_drew (S:=(fun w9=> w9.cell? ⟨w.heap.size,0,none⟩=some (.slice Ad l.length cd)∧w9.cell? ⟨w.heap.size+1,6,none⟩=some (.slice (some ⟨bt,ot,none⟩) tags.length ct)∧w9.cell? ⟨w.heap.size+1,7,none⟩=some (.slice (some ⟨bk,ok,none⟩) kids.length ck)∧w9.cell? ⟨bk,ok,none⟩=some (.int .i64 k0)∧w9.cell? ⟨bt,ot+(j+1),none⟩=some (.int .i64 t)∧w9.cell? ⟨bt,ot+j,none⟩=some (.int .i64 t'))) (by kernel_rfl) ?_ (fun hHeld=> ?_)
        ·(try dsimp only);exact ⟨d0,d6,d7,dk,dt,dp⟩
        refine Za 0 (some 28) hHeld _ ?_;try go_frame
        refine Za 1 (some 29) hHeld _ ?_;try go_frame
        refine Za 2 (some 30) hHeld _ ?_;try go_frame
        refine Za 3 (some 31) hHeld _ ?_;try go_frame
        refine Za 4 (some 32) hHeld _ ?_;try go_frame
        refine Za 5 (some 33) hHeld _ ?_;try go_frame
        refine Za 6 (some 34) hHeld _ ?_;try go_frame
        refine Za 7 (some 35) hHeld _ ?_;try go_frame
        refine Za 8 (some 36) hHeld _ ?_;try go_frame
        refine Za 9 (some 37) hHeld _ ?_;try go_frame
        refine Zh 10 (fun K hK=> ?_)
        go_simp
        refine (HLM.out _ b0).mono ?_;rintro e w2 ⟨rfl,bel⟩
        (try go_wp2_with fail)
        refine hK.out _ _ ?_ (fun hHeld=> ?_)
        ·(try dsimp only);exact ⟨Ec bel d0,Ec bel d6,Ec bel d7,Ec bel dk,Ec bel dt,Ec bel dp⟩
        clear hK K
        try go_frame
        refine Zh 11 (fun K hK=> ?_)
        go_simp
        refine (Qi _ _ _ _).mono ?_;rintro e w3 ⟨rfl,rfl⟩;rw [HT.out]
        (try go_wp2_with fail)
        refine hK.out _ _ ?_ (fun hHeld=> ?_)
        ·(try dsimp only);exact ⟨Ec bel d0,Ec bel d6,Ec bel d7,Ec bel dk,Ec bel dt,Ec bel dp⟩
        clear hK K
        try go_frame
        refine Za 12 (some 40) hHeld _ ?_;try go_frame
        refine Za 13 (some 41) hHeld _ ?_;try go_frame
        refine Za 14 (some 42) hHeld _ ?_;try go_frame
        refine Za 15 (some 43) hHeld _ ?_;try go_frame
        refine Za 16 (some 44) hHeld _ ?_;try go_frame
        refine Za 17 (some 45) hHeld _ ?_;try go_frame
        refine Za 18 (some 46) hHeld _ ?_;try go_frame
        refine Za 19 (some 47) hHeld _ ?_;try go_frame
        refine Za 20 (some 48) hHeld _ ?_;try go_frame
        refine Za 21 (some 49) hHeld _ ?_;try go_frame
        refine Za 22 (some 50) hHeld _ ?_;try go_frame
        refine Za 23 (some 51) hHeld _ ?_;try go_frame
        refine Za 24 (some 52) hHeld _ ?_;try go_frame
        refine Za 25 (some 53) hHeld _ ?_;try go_frame
        refine Za 26 (some 54) hHeld _ ?_;try go_frame
        refine Za 27 (some 55) hHeld _ ?_;try go_frame
        refine Za 28 (some 56) hHeld _ ?_;try go_frame
        refine Za 29 (some 57) hHeld _ ?_;try go_frame
        refine Za 30 (some 58) hHeld _ ?_;try go_frame
        refine wpAnyH_done (by kernel_rfl) ?_ _
        all_goals
         go_wp2
         go_roundw
         case rel=> exact ⟨j+2,by omega,by go_num,HB.out.drew.trans (bel.mono hbs),HX.out⟩
         case measure=> simp [intOf];omega
    ·have hkl3:k=tags.length:=by omega
     have HX:=Fs (HO.out.trans (by rw [←hkl3,hall]))
     have HB:=Fs (hb2.trans (hb.mono (by omega)))
     clear hall hb hkl3 x3 hb2
     go_wp2
     go_ret
     exact ⟨Zd HX.out.symm,HB.out⟩
theorem neq_false {a b:Int} (h:a=b):(a !=b)=false:=by subst h;simp
theorem neq_true {a b:Int} (h:a≠b):(a !=b)=true:=by rw [bne_iff_ne];exact h
theorem Fc (r:RM) (B:Nat) (w:World) (hB:B≤w.heap.size) (hr:r.rd w B) (hk:r.d.ok) (hsm:r.d.small 1048576):
  Calls prog 104 #[Ja r] w fun e w'=> e= .returned (.bool (Zg r.d false false true false r.d.names.length && Jq r.d.names))∧Below w.heap.size w w':=by
 have hPL:∀W,Below w.heap.size w W→Calls prog 103 #[Ja r, .bool false, .bool false, .bool true, .bool false, .int .i64 (-1)] W fun e w'=> e= .returned (.bool (Zg r.d false false true false (-1)))∧Below W.heap.size W w':=fun W hb=> implPlain_n r B _ W (hr.below (hb.mono hB))
 have hpl:Zg r.d false false true false r.d.names.length=(Zg r.d false false true false (-1) && ((r.d.kids.length:Int)==r.d.names.length)):=by
  unfold Zg
  have e1:decide (((r.d.names.length:Nat):Int) < 0)=false:=Fx (by omega)
  rw [e1]
  simp [Bool.and_assoc]
 have HP:=Fs hpl
 clear hpl
 have hNM:∀W,Below w.heap.size w W→Va W w.heap.size r.vn r.d.names:=fun W hb=> (hr.n.more hB).below hb
 generalize Zg r.d false false true false (-1)=pl at*
 obtain ⟨⟨name,kind,size,little,bytes,names,tags,kids⟩,vb,vn,vt,vk⟩:=r
 have h1:Xu w B vb bytes:=hr.b
 have h2:Va w B vn names:=hr.n
 have h3:Yt w B vt tags:=hr.t
 have h4:Yt w B vk kids:=hr.k
 have hkn:∀s∈names,s.size≤maxLen:=hk.names
 have hkt:∀a∈tags,Qa a:=hk.tags
 have hkk:∀a∈kids,Qa a:=hk.kids
 obtain ⟨z0,z1,z2,z3,z4,z5⟩:=hsm
 simp only at z0 z1 z2 z3 z4 z5
 obtain ⟨Ab,cb,rfl,hb1,hb2,x1⟩:=h1.open_
 obtain ⟨An,cn,rfl,hn1,hn2,x2⟩:=h2.one
 obtain ⟨At,ct,rfl,ht1,ht2,x3⟩:=h3.one
 obtain ⟨Ak,ck,rfl,hk1,hk2,x4⟩:=h4.one
 unfold Ja at hPL ⊢
 simp only at hPL hNM HP ⊢
 have HPL:=Fs hPL
 have HNM:=Fs hNM
 clear hPL hNM hr hk h1 h2 h3 h4 x1 x3 x4
 unfold maxLen at hn2
 have b0:Below w.heap.size w (w.alloc (.cells #[.string name, .int .i64 kind, .int .i64 size, .bool little, .slice Ab bytes.length cb, .slice An names.length cn, .slice At tags.length ct, .slice Ak kids.length ck] 50)):=(Fv _ _).alloc (Fu _) _
 have c0:(w.alloc (.cells #[.string name, .int .i64 kind, .int .i64 size, .bool little, .slice Ab bytes.length cb, .slice An names.length cn, .slice At tags.length ct, .slice Ak kids.length ck] 50)).cell? ⟨w.heap.size,0,none⟩=some (.string name):=by simp [go_sem]
 have c1:(w.alloc (.cells #[.string name, .int .i64 kind, .int .i64 size, .bool little, .slice Ab bytes.length cb, .slice An names.length cn, .slice At tags.length ct, .slice Ak kids.length ck] 50)).cell? ⟨w.heap.size,1,none⟩=some (.int .i64 kind):=by simp [go_sem]
 have c2:(w.alloc (.cells #[.string name, .int .i64 kind, .int .i64 size, .bool little, .slice Ab bytes.length cb, .slice An names.length cn, .slice At tags.length ct, .slice Ak kids.length ck] 50)).cell? ⟨w.heap.size,2,none⟩=some (.int .i64 size):=by simp [go_sem]
 have c3:(w.alloc (.cells #[.string name, .int .i64 kind, .int .i64 size, .bool little, .slice Ab bytes.length cb, .slice An names.length cn, .slice At tags.length ct, .slice Ak kids.length ck] 50)).cell? ⟨w.heap.size,3,none⟩=some (.bool little):=by simp [go_sem]
 have c4:(w.alloc (.cells #[.string name, .int .i64 kind, .int .i64 size, .bool little, .slice Ab bytes.length cb, .slice An names.length cn, .slice At tags.length ct, .slice Ak kids.length ck] 50)).cell? ⟨w.heap.size,4,none⟩=some (.slice Ab bytes.length cb):=by simp [go_sem]
 have c5:(w.alloc (.cells #[.string name, .int .i64 kind, .int .i64 size, .bool little, .slice Ab bytes.length cb, .slice An names.length cn, .slice At tags.length ct, .slice Ak kids.length ck] 50)).cell? ⟨w.heap.size,5,none⟩=some (.slice An names.length cn):=by simp [go_sem]
 have c6:(w.alloc (.cells #[.string name, .int .i64 kind, .int .i64 size, .bool little, .slice Ab bytes.length cb, .slice An names.length cn, .slice At tags.length ct, .slice Ak kids.length ck] 50)).cell? ⟨w.heap.size,6,none⟩=some (.slice At tags.length ct):=by simp [go_sem]
 have c7:(w.alloc (.cells #[.string name, .int .i64 kind, .int .i64 size, .bool little, .slice Ab bytes.length cb, .slice An names.length cn, .slice At tags.length ct, .slice Ak kids.length ck] 50)).cell? ⟨w.heap.size,7,none⟩=some (.slice Ak kids.length ck):=by simp [go_sem]
 have hz:(w.alloc (.cells #[.string name, .int .i64 kind, .int .i64 size, .bool little, .slice Ab bytes.length cb, .slice An names.length cn, .slice At tags.length ct, .slice Ak kids.length ck] 50)).heap.size=w.heap.size+1:=by simp
 generalize hW0:(w.alloc (.cells #[.string name, .int .i64 kind, .int .i64 size, .bool little, .slice Ab bytes.length cb, .slice An names.length cn, .slice At tags.length ct, .slice Ak kids.length ck] 50))=W0 at*
 have HW0:=Fs hW0
 cases hpl:pl
 ·have HX:=Fs (show (Zg ⟨name,kind,size,little,bytes,names,tags,kids⟩ false false true false names.length && Jq names)=false by rw [HP.out,hpl];rfl)
  rw [hpl] at HPL
  clear hpl hW0
  go_enter func104,ntmps104
  go_wp2_with fail
  rw [HW0.out]
  refine (HPL.out _ b0).mono ?_
  rintro e w1 ⟨rfl,bel⟩
  have b1:=Zb bel b0
  have c5:=Ec bel c5
  have c7:=Ec bel c7
  go_wp2
  go_ret
  exact ⟨Zd HX.out.symm,b1⟩
 ·rw [hpl] at HPL HP
  clear hpl hW0
  by_cases hkn2:(kids.length:Int)=names.length
  ·have ne:=neq_false hkn2
   have HP2:=Fs (HP.out.trans (show _=true by rw [hkn2];simp))
   have hkn3:kids.length≤names.length:=by omega
   have hkn4:names.length≤kids.length:=by omega
   cases hin:Xs kids.length 1 8
   ·have HX:=Fs (show (Zg ⟨name,kind,size,little,bytes,names,tags,kids⟩ false false true false names.length && Jq names)=false by
     rw [HP2.out,Jq,←hkn2,hin];simp)
    have HI:=Fs hin
    clear hin hkn2
    go_enter func104,ntmps104
    go_wp2_with fail
    rw [HW0.out]
    refine (HPL.out _ b0).mono ?_
    rintro e w1 ⟨rfl,bel⟩
    have b1:=Zb bel b0
    have c5:=Ec bel c5
    have c7:=Ec bel c7
    go_wp2_with (go_at_call 26;refine (Zm _ _ _ _).mono ?_;rintro e w1 ⟨rfl,rfl⟩;rw [HI.out])
    go_ret
    exact ⟨Zd HX.out.symm,b1⟩
   ·have HO:=Fs (show (Zg ⟨name,kind,size,little,bytes,names,tags,kids⟩ false false true false names.length && Jq names)=Jg (Il names) names.length by
     rw [HP2.out,Jq,←hkn2,hin];simp)
    have HI:=Fs hin
    clear hin hkn2
    go_enter func104,ntmps104
    go_wp2_with fail
    rw [HW0.out]
    refine (HPL.out _ b0).mono ?_
    rintro e w1 ⟨rfl,bel⟩
    have b1:=Zb bel b0
    have hz1:=bel.size
    have c0:=Ec bel c0
    have c1:=Ec bel c1
    have c2:=Ec bel c2
    have c3:=Ec bel c3
    have c4:=Ec bel c4
    have c5:=Ec bel c5
    have c6:=Ec bel c6
    have c7:=Ec bel c7
    go_wp2_with (go_at_call 26;refine (Zm _ _ _ _).mono ?_;rintro e w1 ⟨rfl,rfl⟩;rw [HI.out])
    have c5':=c5
    clear c0 c1 c2 c3 c4 c6 c7 c5 bel
    go_loopw [27] (fun i wr=> ∃k:Nat,k≤names.length∧i= .int .i64 k∧Below w1.heap.size w1 wr∧Jg (Il names) k=true) (fun i _=> names.length - (intOf i).toNat)
    case atStart=> exact ⟨0,Eb _,rfl,Fv _ _,rfl⟩
    case round=>
     obtain ⟨k,hk,rfl,hb,hall⟩:=hrel
     have c5:=Zz hb (show w.heap.size < w1.heap.size by omega) c5'
     have hbw:=b1.trans (hb.mono (by omega))
     have HBW:=Fs hbw
     have hbs:=hb.size
     have hbz:=hbw.size
     have HB:=Fs hb
     by_cases hlt:k < names.length
     ·obtain ⟨b,off,rfl,hbB,hc0⟩:=x2 k hlt
      have hcr:wr.cell? ⟨b,off+k,none⟩=some (.string names[k]):=Zz hbw (show b < w.heap.size by omega) hc0
      have hsl:∀W,Below wr.heap.size wr W→Va W w.heap.size (.slice (cutA (some ⟨b,off,none⟩) cn 0 1) (k - 0) (cn - 0)) (names.take k):=fun W hw=> (HNM.out W (HBW.out.trans (hw.mono (by omega)))).take k hk hn1 (by unfold maxLen;omega)
      have hn:=Ki names k hlt
      have hno:=Vh (Il names) k names.length hlt
      have hst:=Xf (Il names) k hall
      have QS:∀W,Calls prog 84 #[.string names[k]] W fun e w'=> e= .returned (.bool (Jc names[k]))∧Below W.heap.size W w':=fun W=> Yp names[k] W (hkn _ (Fw hlt))
      have QC:∀W,Below wr.heap.size wr W→Calls prog 108 #[.slice (cutA (some ⟨b,off,none⟩) cn 0 1) (k - 0) (cn - 0), .string names[k]] W fun e w'=> e= .returned (.bool (Ry (names.take k) names[k]))∧W=w':=fun W hw=> Lj _ (names.take k) names[k] _ W (hsl W hw)
      have hcut:=Ig (P:=prog) underlying47 sizeOf9 (some ⟨b,off,none⟩) names.length cn k k rfl (by omega)
      generalize names[k]=y at*
      generalize Ry (names.take k) y=t at*
      cases hi:Jc y
      ·have HX:=Fs (HO.out.trans (hno (by rw [hn,hi];rfl)))
       rw [hi] at QS
       have QS:=Fs QS
       clear hn hno hst hall QC hi x2 hsl hb hbw hc0 hkn
       go_wp2_with fail
       refine (QS.out _).mono ?_
       rintro e w2 ⟨rfl,bel⟩
       have b2:=Zb bel HBW.out
       have c5:=Ec bel c5
       clear bel
       go_wp2
       go_ret
       exact ⟨Zd HX.out.symm,b2⟩
      ·rw [hi] at QS
       have QS:=Fs QS
       have QC:=Fs QC
       cases t
       ·have HX:=Fs (hst (by rw [hn,hi];rfl))
        clear hn hno hst hall hi x2 hsl hb hbw hc0 hkn
        go_wp2_with fail
        refine (QS.out _).mono ?_
        rintro e w2 ⟨rfl,bel⟩
        have BL:=Fs bel
        have c5:=Ec bel c5
        clear bel
        go_wp2_with (go_at_call 108;refine (QC.out _ BL.out).mono ?_;rintro e w3 ⟨rfl,rfl⟩)
        go_roundw
        case rel=> exact ⟨k+1,by omega,by go_num,HB.out.trans (BL.out.mono (HB.out.size)),HX.out⟩
        case measure=> simp [intOf];omega
       ·have HX:=Fs (HO.out.trans (hno (by rw [hn,hi];rfl)))
        clear hn hno hst hall hi x2 hsl hb hbw hc0 hkn
        go_wp2_with fail
        refine (QS.out _).mono ?_
        rintro e w2 ⟨rfl,bel⟩
        have BL:=Fs bel
        have c5:=Ec bel c5
        clear bel
        go_wp2_with (go_at_call 108;refine (QC.out _ BL.out).mono ?_;rintro e w3 ⟨rfl,rfl⟩)
        go_ret
        exact ⟨Zd HX.out.symm,Zb BL.out HBW.out⟩
     ·have hkl:k=names.length:=by omega
      have HX:=Fs (HO.out.trans (by rw [←hkl,hall]))
      clear hall hkl x2 hb
      go_wp2
      go_ret
      exact ⟨Zd HX.out.symm,HBW.out⟩
  ·have ne:=neq_true hkn2
   have HX:=Fs (show (Zg ⟨name,kind,size,little,bytes,names,tags,kids⟩ false false true false names.length && Jq names)=false by
    rw [HP.out]
    have:((kids.length:Int)==names.length)=false:=beq_eq_false_iff_ne.2 hkn2
    rw [this];rfl)
   clear hkn2
   go_enter func104,ntmps104
   go_wp2_with fail
   rw [HW0.out]
   refine (HPL.out _ b0).mono ?_
   rintro e w1 ⟨rfl,bel⟩
   have b1:=Zb bel b0
   have c5:=Ec bel c5
   have c7:=Ec bel c7
   go_wp2
   go_ret
   exact ⟨Zd HX.out.symm,b1⟩
theorem limitOf_two (D:List Zi) (i:Int):Zr D i= -1∨255≤Zr D i:=by
 unfold Zr
 split
 ·exact .inl rfl
 ·unfold Yh Tb
  split
  ·right
   split
   ·omega
   ·split
    ·omega
    ·split <;> omega
  ·exact .inl rfl
theorem Kg (v:Value) (l:List RM) (r:RM) (B:Nat) (w:World) (h:Qz w B v l) (hB:B≤w.heap.size) (ok:∀r∈l,r.d.ok) (hr:r.rd w B) (hk:r.d.ok) (hsm:r.d.small 1048576):
  Calls prog 105 #[.agg #[v],Ja r] w fun e w'=> e= .returned (.bool (Zg r.d false false false true (-1) && Yu (l.map RM.d) r.d))∧Below w.heap.size w w':=by
 have hLIM:∀W i,Below w.heap.size w W→Qa i→Calls prog 90 #[.agg #[v], .int .i64 i] W fun e w'=> e= .returned (.int .i64 (Zr (l.map RM.d) i))∧Below W.heap.size W w':=fun W i hb hi=>
  Xc v l i B W (h.below (hb.mono hB)) (by have:=hb.size;omega) hi ok
 have hlb:=fun i=> Ip (l.map RM.d) i
 have hl2:=fun i=> limitOf_two (l.map RM.d) i
 have hPL:∀W (K:Int),Below w.heap.size w W→Calls prog 103 #[Ja r, .bool false, .bool false, .bool false, .bool true, .int .i64 K] W fun e w'=> e= .returned (.bool (Zg r.d false false false true K))∧Below W.heap.size W w':=fun W K hb=> implPlain_t r B _ W (hr.below (hb.mono hB))
 have hPL:=fun W=> hPL W ((r.d.tags.length:Int)+1)
 have hpl:(Zg r.d false false false true (-1) && Yu (l.map RM.d) r.d)=(Zg r.d false false false true ((r.d.tags.length:Int)+1) && (Xs r.d.tags.length 1 8 && Jg (Rt (Zr (l.map RM.d) (Xt r.d 0)) r.d.tags) r.d.tags.length)):=by
  unfold Yu Zg
  have e1:decide (((r.d.tags.length:Nat):Int)+1 < 0)=false:=Fx (by omega)
  rw [e1]
  simp [Bool.and_assoc]
 have hkids:Zg r.d false false false true ((r.d.tags.length:Int)+1)=true→(r.d.kids.length:Int)=r.d.tags.length+1:=by
  unfold Zg
  have e1:decide (((r.d.tags.length:Nat):Int)+1 < 0)=false:=Fx (by omega)
  rw [e1]
  intro h
  simp only [Bool.and_eq_true,Bool.or_eq_true,beq_iff_eq] at h
  have:=h.2.2.2.2
  simpa using this
 have HP:=Fs hpl
 clear hpl
 generalize hD:l.map RM.d=D at*
 clear hD
 generalize Zg r.d false false false true ((r.d.tags.length:Int)+1)=pl at*
 obtain ⟨⟨name,kind,size,little,bytes,names,tags,kids⟩,vb,vn,vt,vk⟩:=r
 have h1:Xu w B vb bytes:=hr.b
 have h2:Va w B vn names:=hr.n
 have h3:Yt w B vt tags:=hr.t
 have h4:Yt w B vk kids:=hr.k
 have hkn:∀s∈names,s.size≤maxLen:=hk.names
 have hkt:∀a∈tags,Qa a:=hk.tags
 have hkk:∀a∈kids,Qa a:=hk.kids
 obtain ⟨z0,z1,z2,z3,z4,z5⟩:=hsm
 simp only at z0 z1 z2 z3 z4 z5
 obtain ⟨Ad,cd,rfl, -⟩:=h.open_
 obtain ⟨Ab,cb,rfl,hb1,hb2,x1⟩:=h1.open_
 obtain ⟨An,cn,rfl,hn1,hn2,x2⟩:=h2.one
 obtain ⟨At,ct,rfl,ht1,ht2,x3⟩:=h3.one
 obtain ⟨Ak,ck,rfl,hk1,hk2,x4⟩:=h4.one
 unfold Ja at hPL ⊢
 simp only at hPL HP hkids ⊢
 have HPL:=Fs hPL
 have HLIM:=Fs hLIM
 clear hPL hLIM hr hk h1 h2 h3 h4 x1 x2 h
 unfold maxLen at ht2 hk2
 have b0:Below w.heap.size w ((w.alloc (.cells #[.slice Ad l.length cd] 26)).alloc (.cells #[.string name, .int .i64 kind, .int .i64 size, .bool little, .slice Ab bytes.length cb, .slice An names.length cn, .slice At tags.length ct, .slice Ak kids.length ck] 50)):=(((Fv _ _).alloc (Fu _) _).alloc (by simp) _)
 have cD:((w.alloc (.cells #[.slice Ad l.length cd] 26)).alloc (.cells #[.string name, .int .i64 kind, .int .i64 size, .bool little, .slice Ab bytes.length cb, .slice An names.length cn, .slice At tags.length ct, .slice Ak kids.length ck] 50)).cell? ⟨w.heap.size,0,none⟩=some (.slice Ad l.length cd):=by simp [go_sem]
 have c0:((w.alloc (.cells #[.slice Ad l.length cd] 26)).alloc (.cells #[.string name, .int .i64 kind, .int .i64 size, .bool little, .slice Ab bytes.length cb, .slice An names.length cn, .slice At tags.length ct, .slice Ak kids.length ck] 50)).cell? ⟨w.heap.size+1,0,none⟩=some (.string name):=by simp [go_sem]
 have c1:((w.alloc (.cells #[.slice Ad l.length cd] 26)).alloc (.cells #[.string name, .int .i64 kind, .int .i64 size, .bool little, .slice Ab bytes.length cb, .slice An names.length cn, .slice At tags.length ct, .slice Ak kids.length ck] 50)).cell? ⟨w.heap.size+1,1,none⟩=some (.int .i64 kind):=by simp [go_sem]
 have c2:((w.alloc (.cells #[.slice Ad l.length cd] 26)).alloc (.cells #[.string name, .int .i64 kind, .int .i64 size, .bool little, .slice Ab bytes.length cb, .slice An names.length cn, .slice At tags.length ct, .slice Ak kids.length ck] 50)).cell? ⟨w.heap.size+1,2,none⟩=some (.int .i64 size):=by simp [go_sem]
 have c3:((w.alloc (.cells #[.slice Ad l.length cd] 26)).alloc (.cells #[.string name, .int .i64 kind, .int .i64 size, .bool little, .slice Ab bytes.length cb, .slice An names.length cn, .slice At tags.length ct, .slice Ak kids.length ck] 50)).cell? ⟨w.heap.size+1,3,none⟩=some (.bool little):=by simp [go_sem]
 have c4:((w.alloc (.cells #[.slice Ad l.length cd] 26)).alloc (.cells #[.string name, .int .i64 kind, .int .i64 size, .bool little, .slice Ab bytes.length cb, .slice An names.length cn, .slice At tags.length ct, .slice Ak kids.length ck] 50)).cell? ⟨w.heap.size+1,4,none⟩=some (.slice Ab bytes.length cb):=by simp [go_sem]
 have c5:((w.alloc (.cells #[.slice Ad l.length cd] 26)).alloc (.cells #[.string name, .int .i64 kind, .int .i64 size, .bool little, .slice Ab bytes.length cb, .slice An names.length cn, .slice At tags.length ct, .slice Ak kids.length ck] 50)).cell? ⟨w.heap.size+1,5,none⟩=some (.slice An names.length cn):=by simp [go_sem]
 have c6:((w.alloc (.cells #[.slice Ad l.length cd] 26)).alloc (.cells #[.string name, .int .i64 kind, .int .i64 size, .bool little, .slice Ab bytes.length cb, .slice An names.length cn, .slice At tags.length ct, .slice Ak kids.length ck] 50)).cell? ⟨w.heap.size+1,6,none⟩=some (.slice At tags.length ct):=by simp [go_sem]
 have c7:((w.alloc (.cells #[.slice Ad l.length cd] 26)).alloc (.cells #[.string name, .int .i64 kind, .int .i64 size, .bool little, .slice Ab bytes.length cb, .slice An names.length cn, .slice At tags.length ct, .slice Ak kids.length ck] 50)).cell? ⟨w.heap.size+1,7,none⟩=some (.slice Ak kids.length ck):=by simp [go_sem]
 have hz:((w.alloc (.cells #[.slice Ad l.length cd] 26)).alloc (.cells #[.string name, .int .i64 kind, .int .i64 size, .bool little, .slice Ab bytes.length cb, .slice An names.length cn, .slice At tags.length ct, .slice Ak kids.length ck] 50)).heap.size=w.heap.size+2:=by simp
 generalize hW0:((w.alloc (.cells #[.slice Ad l.length cd] 26)).alloc (.cells #[.string name, .int .i64 kind, .int .i64 size, .bool little, .slice Ab bytes.length cb, .slice An names.length cn, .slice At tags.length ct, .slice Ak kids.length ck] 50))=W0 at*
 have HW0:=Fs hW0
 clear hW0
 cases hpl:pl
 ·have HX:=Fs (HP.out.trans (by rw [hpl]))
  rw [hpl] at HPL
  clear hpl x3 x4 hlb hl2 hkids
  go_enter func105,ntmps105
  go_wp2_with fail
  rw [HW0.out]
  refine (HPL.out _ b0).mono ?_
  rintro e w1 ⟨rfl,bel⟩
  have b1:=Zb bel b0
  have c6:=Ec bel c6
  clear bel
  go_wp2
  go_ret
  exact ⟨Zd HX.out.symm,b1⟩
 ·rw [hpl] at HPL
  have hkl:=hkids hpl
  cases e2:Xs tags.length 1 8
  ·have HX:=Fs (HP.out.trans (by rw [hpl,e2]))
   have HE:=Fs e2
   clear hpl x3 x4 hlb hl2 hkids e2 hkl
   go_enter func105,ntmps105
   go_wp2_with fail
   rw [HW0.out]
   refine (HPL.out _ b0).mono ?_
   rintro e w1 ⟨rfl,bel⟩
   have b1:=Zb bel b0
   have c6:=Ec bel c6
   have c7:=Ec bel c7
   clear bel
   go_wp2_with (go_at_call 26;refine (Zm _ _ _ _).mono ?_;rintro e w1 ⟨rfl,rfl⟩;rw [HE.out])
   go_ret
   exact ⟨Zd HX.out.symm,b1⟩
  ·have h8:1≤tags.length∧tags.length≤8:=by have:=Jv.1 e2;omega
   have hkl1:0 < kids.length:=by omega
   have hkl2:(0:Int) < kids.length:=by omega
   obtain ⟨bk,ok,rfl,hbk,ck0⟩:=x4 0 hkl1
   have hi0:=hkk _ (Fw hkl1)
   have hkid:Xt ⟨name,kind,size,little,bytes,names,tags,kids⟩ 0=kids[0]:=Jb ⟨name,kind,size,little,bytes,names,tags,kids⟩ 0 hkl1
   have HO:=Fs (HP.out.trans (show _=Jg (Rt (Zr D (Xt ⟨name,kind,size,little,bytes,names,tags,kids⟩ 0)) tags) tags.length by rw [hpl,e2];rfl))
   rw [hkid] at HO
   generalize kids[0]=k0 at*
   have HLB:=hlb k0
   have HL2:=hl2 k0
   have HE:=Fs e2
   have hLM:∀W,Below w.heap.size w W→Calls prog 90 #[.agg #[.slice Ad l.length cd], .int .i64 k0] W fun e w'=> e= .returned (.int .i64 (Zr D k0))∧Below W.heap.size W w':=fun W hb=> HLIM.out W k0 hb hi0
   generalize Zr D k0=lim at*
   have HLM:=Fs hLM
   have hck:=Zz b0 (show bk < w.heap.size by omega) ck0
   clear e2 hkk hlb hl2 HLIM hkid hLM hi0 hpl hkids hkl
   go_enter func105,ntmps105
   go_wp2_with fail
   rw [HW0.out]
   refine (HPL.out _ b0).mono ?_
   rintro e w1 ⟨rfl,bel⟩
   have b1:=Zb bel b0
   have hz1:=bel.size
   have c0:=Ec bel c0
   have c1:=Ec bel c1
   have c2:=Ec bel c2
   have c3:=Ec bel c3
   have c4:=Ec bel c4
   have c5:=Ec bel c5
   have c6:=Ec bel c6
   have c7:=Ec bel c7
   have cD:=Ec bel cD
   have hck:=Ec bel hck
   clear bel
   go_wp2_with (go_at_call 26;refine (Zm _ _ _ _).mono ?_;rintro e w1 ⟨rfl,rfl⟩;rw [HE.out])
   go_region_held3 (fun w9=> w9.cell? ⟨w.heap.size,0,none⟩=some (.slice Ad l.length cd)∧w9.cell? ⟨w.heap.size+1,7,none⟩=some (.slice (some ⟨bk,ok,none⟩) kids.length ck)∧w9.cell? ⟨bk,ok,none⟩=some (.int .i64 k0))
    (first|exact ⟨cD,c7,hck⟩|exact ⟨Ec bel cD,Ec bel c7,Ec bel hck⟩)
    (first|(go_at_call 90;refine (HLM.out _ b1.drew).mono ?_;rintro e w2 ⟨rfl,bel⟩))
   have hb2:=Zb bel b1.drew
   have c6':=Ec bel c6
   have hz2:=bel.size
   have hz3:w1.heap.size≤w2.heap.size:=hz2
   clear cD c0 c1 c2 c3 c4 c5 c6 c7 bel hck
   go_wp2
   go_loopw [31] (fun i wr=> ∃k:Nat,k≤tags.length∧i= .int .i64 k∧Below w2.heap.size w2 wr∧Jg (Rt lim tags) k=true) (fun i _=> tags.length - (intOf i).toNat)
   case atStart=> exact ⟨0,Eb _,rfl,Fv _ _,rfl⟩
   case round=>
    obtain ⟨k,hkl2,rfl,hb,hall⟩:=hrel
    have c6:=Zz hb (show w.heap.size+1 < w2.heap.size by omega) c6'
    have hbw:=hb2.trans (hb.mono (by omega))
    have HB:=Fs hb
    have HBW:=Fs hbw
    by_cases hlt:k < tags.length
    ·obtain ⟨bt,ot,rfl,hbt,ct0⟩:=x3 k hlt
     have dt:=Zz hbw (show bt < w.heap.size by omega) ct0
     have hno:=Vh (Rt lim tags) k tags.length hlt
     have hst:=Xf (Rt lim tags) k hall
     cases hin:Xs tags[k] 0 lim
     ·have hf:Rt lim tags k=false:=by
       cases k with
       |zero=> rw [Uj lim tags hlt,hin]
       |succ j=> rw [Uk lim tags j hlt,hin];rfl
      have HX:=Fs (HO.out.trans (hno hf))
      generalize tags[k]=t at*
      have HT:=Fs hin
      clear x3 ct0 hno hst hin hf hall hb hkt hbw
      go_wp2_with fail
      refine (Zm _ _ _ _).mono ?_
      rintro e w3 ⟨rfl,rfl⟩
      rw [HT.out]
      go_wp2
      go_ret
      exact ⟨Zd HX.out.symm,HBW.out⟩
     ·cases k with
      |zero=>
       have HX:=Fs (hst (by rw [Uj lim tags hlt,hin]))
       rw [Nat.add_zero] at dt
       generalize tags[0]=t at*
       have HT:=Fs hin
       clear x3 ct0 hno hst hin hall hb hkt hbw
       go_wp2_with fail
       refine (Zm _ _ _ _).mono ?_
       rintro e w3 ⟨rfl,rfl⟩
       rw [HT.out]
       go_wp2
       go_roundw
       case rel=> exact ⟨1,by omega,by go_num,HB.out,HX.out⟩
       case measure=> simp [intOf];omega
      |succ j=>
       have hjl:j < tags.length:=by omega
       obtain ⟨bt',ot',ebt,hbt',cp0⟩:=x3 j hjl
       simp only [Option.some.injEq,Addr.mk.injEq] at ebt
       obtain ⟨rfl,rfl, -⟩:=ebt
       have dp:=Zz hbw (show bt < w.heap.size by omega) cp0
       have hsx:=Uk lim tags j hlt
       have hj0:(0:Int)≤j:=by omega
       have hj4:(0:Int)≤(j:Int)+1:=by omega
       have hj2:(j:Int) < tags.length:=by omega
       have hj3:(j:Int)+1 < tags.length:=by omega
       have hjp:(0:Int) < (j:Int)+1:=by omega
       cases hlt':decide (tags[j] < tags[j+1])
       ·have hge:decide (tags[j+1]≤tags[j])=true:=Fy (by have:=of_decide_eq_false hlt';omega)
        have HX:=Fs (HO.out.trans (hno (by rw [hsx,hin,hlt'];rfl)))
        generalize tags[j+1]=t at*
        generalize tags[j]=t' at*
        have HT:=Fs hin
        clear x3 ct0 hno hst hin hall hb hkt cp0 hsx hlt' hbw
        go_wp2_with fail
        refine (Zm _ _ _ _).mono ?_
        rintro e w3 ⟨rfl,rfl⟩
        rw [HT.out]
        go_wp2
        go_ret
        exact ⟨Zd HX.out.symm,HBW.out⟩
       ·have hge:decide (tags[j+1]≤tags[j])=false:=Fx (by have:=of_decide_eq_true hlt';omega)
        have HX:=Fs (hst (by rw [hsx,hin,hlt'];rfl))
        generalize tags[j+1]=t at*
        generalize tags[j]=t' at*
        have HT:=Fs hin
        clear x3 ct0 hno hst hin hall hb hkt cp0 hsx hlt' hbw
        go_wp2_with fail
        refine (Zm _ _ _ _).mono ?_
        rintro e w3 ⟨rfl,rfl⟩
        rw [HT.out]
        go_wp2
        go_roundw
        case rel=> exact ⟨j+2,by omega,by go_num,HB.out,HX.out⟩
        case measure=> simp [intOf];omega
    ·have hkl3:k=tags.length:=by omega
     have hpos:0 < lim:=by
      have h0:=(Yw (Rt lim tags) k).1 hall 0 (by omega)
      rw [Uj lim tags (by omega)] at h0
      have:=Jv.1 h0
      omega
     have hdp:decide (0 < lim)=true:=Fy hpos
     have HX:=Fs (HO.out.trans (by rw [←hkl3,hall]))
     clear hall hb hkl3 x3 hb2 hbw hpos
     go_wp2
     go_ret
     exact ⟨Zd HX.out.symm,HBW.out⟩
end Go.Proofs.YteldgdelmaeokaaGreatDoor
