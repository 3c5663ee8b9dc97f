/- Out of DescX, DescY, DescY2: the walks and plain laws that the claim needs. No condition but those that each theorem names. -/
import Derived.Test.YteldgdelmaeokaaDoorGb
import Derived.WalkSpells
import Derived.WalkLawsBesides
import Derived.BigQuiet
import Derived.Deep.QuietTactic
import Derived.Deep.RegionHeld3
set_option linter.unusedSimpArgs false
set_option linter.unusedVariables false
namespace Go.Proofs.YteldgdelmaeokaaDoor
open Go.RowKit
theorem SlS.take {w:World} {B c:Nat} {A:Option Addr} {l:List ByteArray} (h:SlS w B (.slice A l.length c) l) (k:Nat) (hk:k≤l.length) (hc:l.length≤c) (hm:c≤maxLen):SlS w B (.slice (cutA A c 0 1) (k - 0) (c - 0)) (l.take k):=by
 have:=Sl.cutA h 0 k c (Nat.zero_le _) hk (by omega) hm (by decide)
 unfold SlS
 rw [List.length_take,Nat.min_eq_left hk,List.map_take]
 simpa using this
set_option maxHeartbeats 1000000 in
set_option maxRecDepth 100000 in
theorem l4Names_any (v:Value) (l:List ByteArray) (B:Nat) (w:World) (h:SlS w B v l) (hs:∀s∈l,s.size≤maxLen):
  Calls Tryd.prog 125 #[v] w (Quiet w (.bool (okNames l))):=by
 obtain ⟨A,c,rfl,hc,hm,hcell⟩:=h.one
 have hm':=hm
 unfold maxLen at hm
 have HL:=Lib.hid h
 clear h
 go_enter Tryd.func125,Tryd.ntmps125
 go_wp2
 go_loopw [3] (fun i wr=> ∃k n:Nat,k≤l.length∧i= .int .i64 k∧wr=w.drewN n∧allTo (nmAt l) k=true) (fun i _=> l.length - (intOf i).toNat)
 case atStart=> exact ⟨0,0,Nat.zero_le _,rfl,rfl,rfl⟩
 case round=>
  obtain ⟨k,n,hk,rfl,hw,hall⟩:=hrel
  have HW:=Lib.hid hw
  by_cases hlt:k < l.length
  ·obtain ⟨b,off,rfl,hbB,hc0⟩:=hcell k hlt
   have hcr:wr.cell? ⟨b,off+k,none⟩=some (.string l[k]):=by rw [hw];exact hc0
   have hsl:SlS wr B (.slice (cutA (some ⟨b,off,none⟩) c 0 1) (k - 0) (c - 0)) (l.take k):=by rw [hw];exact Sl.drewN (HL.out.take k hk hc hm') n
   clear hc0 hw
   have hn:=nmAt_eq l k hlt
   have hno:=allTo_no (nmAt l) k l.length hlt
   have hst:=allTo_step (nmAt l) k hall
   have HS:∀m,Calls Tryd.prog 91 #[.string l[k]] (wr.drewN m) fun e w'=> e= .returned (.bool (isName l[k]))∧w'=wr.drewN m:=fun m=> (specIsName_any l[k] _ (hs _ (List.getElem_mem hlt))).mono fun e w' ⟨h1,h2⟩=> ⟨h1,h2.symm⟩
   have HC:∀m,Calls Tryd.prog 134 #[.slice (cutA (some ⟨b,off,none⟩) c 0 1) (k - 0) (c - 0), .string l[k]] (wr.drewN m) fun e w'=> e= .returned (.bool (hasT (l.take k) l[k]))∧w'=wr.drewN m:=fun m=>
    (specContains_any (.slice (cutA (some ⟨b,off,none⟩) c 0 1) (k - 0) (c - 0)) (l.take k) l[k] B _ (Sl.drewN hsl m)).mono fun e w' ⟨h1,h2⟩=> ⟨h1,h2.symm⟩
   have hcut:=run_cutH (P:=Tryd.prog) Tryd.underlying64 Tryd.sizeOf9 (some ⟨b,off,none⟩) l.length c k k rfl (by omega)
   generalize l[k]=y at*
   generalize hasT (l.take k) y=t at*
   clear hcell
   have HCR:=Lib.hid hcut
   cases hi:isName y
   ·have HX:=Lib.hid (show okNames l=false by unfold okNames;rw [hno (by rw [hn,hi];rfl)];rfl)
    rw [hi] at HS
    have QS:=Lib.hid HS
    clear hsl hn hno hst hall HC hi HS hcut
    go_wp2_with fail
    go_quiet (first|(go_at_call 91;refine Calls.quiet_of_same (QS.out _)))
    go_wp2
    go_ret
    exact ⟨ret_bool HX.out.symm,_,by rw [HW.out];exact World.drewN_drewN _ _ _⟩
   ·rw [hi] at HS
    have QS:=Lib.hid HS
    have QC:=Lib.hid HC
    cases t
    ·have HX:=Lib.hid (hst (by rw [hn,hi];rfl))
     clear hsl hn hno hst hall HC hi HS
     go_wp2_with fail
     go_quiet (first|(go_at_call 91;refine Calls.quiet_of_same (QS.out _))|(go_at_call 134;refine Calls.quiet_of_same (QC.out _)))
     go_wp2
     go_roundw
     case rel=> exact ⟨k+1,_,by omega,by go_num,by rw [HW.out];exact World.drewN_drewN _ _ _,HX.out⟩
     case measure=> simp [intOf];omega
    ·have HX:=Lib.hid (show okNames l=false by unfold okNames;rw [hno (by rw [hn,hi];rfl)];rfl)
     clear hsl hn hno hst hall HC hi HS
     go_wp2_with fail
     go_quiet (first|(go_at_call 91;refine Calls.quiet_of_same (QS.out _))|(go_at_call 134;refine Calls.quiet_of_same (QC.out _)))
     go_wp2
     go_ret
     exact ⟨ret_bool HX.out.symm,_,by rw [HW.out];exact World.drewN_drewN _ _ _⟩
  ·have hkl:k=l.length:=by omega
   have HX:=Lib.hid (show okNames l=inB l.length 1 8 by unfold okNames;rw [←hkl,hall];rfl)
   clear hall hkl hcell hw
   go_wp2_with fail
   refine (l1In_any _ _ _ _).mono ?_
   rintro e w1 ⟨rfl,rfl⟩
   go_wp2
   go_ret
   exact ⟨ret_bool HX.out.symm,_,HW.out⟩
theorem cell_at {B:Nat} {a w:World} (h:Below B a w) {b o:Nat} (hb:b < B) {u:Value} (hc:a.cell? ⟨b,o,none⟩=some u):w.cell? ⟨b,o,none⟩=some u:=(h.cell (p:=⟨b,o,none⟩) hb).trans hc
set_option maxHeartbeats 8000000 in
set_option maxRecDepth 100000 in
theorem l4Tags_any (v:Value) (l:List RM) (r:RM) (B:Nat) (w:World) (h:SlD w B v l) (hB:B≤w.heap.size) (ok:∀r∈l,r.d.ok) (hr:r.rd w B) (hk:r.d.ok) (hsm:r.d.tags.length≤1048576) (hsk:r.d.kids.length≤1048576):
  Calls Tryd.prog 126 #[.agg #[v],rmV r] w fun e w'=> e= .returned (.bool (okTags (l.map RM.d) r.d))∧Below w.heap.size w w':=by
 have hLIM:∀W i,Below w.heap.size w W→InI64 i→Calls Tryd.prog 94 #[.agg #[v], .int .i64 i] W fun e w'=> e= .returned (.int .i64 (limitOf (l.map RM.d) i))∧Below W.heap.size W w':=fun W i hb hi=>
  specLimit_any v l i B W (h.below (hb.mono hB)) (by have:=hb.size;omega) hi ok
 have hlb:=fun i=> limitOf_bd (l.map RM.d) i
 generalize hD:l.map RM.d=D at*
 clear hD
 obtain ⟨⟨name,kind,size,little,bytes,names,tags,kids⟩,vb,vn,vt,vk⟩:=r
 have h1:SlB w B vb bytes:=hr.b
 have h2:SlS w B vn names:=hr.n
 have h3:SlI w B vt tags:=hr.t
 have h4:SlI w B vk kids:=hr.k
 have hkt:∀a∈tags,InI64 a:=hk.tags
 have hkk:∀a∈kids,InI64 a:=hk.kids
 obtain ⟨Ad,cd,rfl, -⟩:=h.open_
 obtain ⟨Ab,cb,rfl, -⟩:=h1.open_
 obtain ⟨An,cn,rfl, -⟩:=h2.one
 obtain ⟨At,ct,rfl,ht1,ht2,x3⟩:=h3.one
 obtain ⟨Ak,ck,rfl,hk1,hk2,x4⟩:=h4.one
 clear h hr hk h1 h2 h3 h4
 unfold rmV
 simp only at hsm hsk ⊢
 unfold maxLen at ht2 hk2
 have HLIM:=Lib.hid hLIM
 clear hLIM
 have hb2:Below w.heap.size w ((w.alloc (.cells #[.slice Ad l.length cd] 26)).alloc (.cells #[.string name, .int .i64 kind, .int .i64 size, .bool little, .slice Ab bytes.length cb, .slice An names.length cn, .slice At tags.length ct, .slice Ak kids.length ck] 73)):=(((Below.refl _ _).alloc (Nat.le_refl _) _).alloc (by simp) _)
 cases e1:((kids.length:Int)==tags.length+1)
 ·have e1':((kids.length:Int) !=tags.length+1)=true:=by rw [bne,e1];rfl
  have H:=Lib.hid (show okTags D ⟨name,kind,size,little,bytes,names,tags,kids⟩=false by unfold okTags;simp only;rw [e1];rfl)
  clear x3 x4
  go_enter Tryd.func126,Tryd.ntmps126
  go_wp2
  go_ret
  exact ⟨ret_bool H.out.symm,hb2⟩
 ·have e1':((kids.length:Int) !=tags.length+1)=false:=by rw [bne,e1];rfl
  cases e2:inB tags.length 1 8
  ·have H:=Lib.hid (show okTags D ⟨name,kind,size,little,bytes,names,tags,kids⟩=false by unfold okTags;simp only;rw [e1,e2];rfl)
   have HE:=Lib.hid e2
   clear x3 x4 e2
   go_enter Tryd.func126,Tryd.ntmps126
   go_wp2_with (go_at_call 53;refine (l1In_any _ _ _ _).mono ?_;rintro e w1 ⟨rfl,rfl⟩;rw [HE.out])
   go_ret
   exact ⟨ret_bool H.out.symm,hb2⟩
  ·have HO:=Lib.hid (show okTags D ⟨name,kind,size,little,bytes,names,tags,kids⟩=allTo (tgAt (limitOf D (kid ⟨name,kind,size,little,bytes,names,tags,kids⟩ 0)) tags) tags.length by unfold okTags;simp only;rw [e1,e2];rfl)
   have hkl:1≤kids.length:=by have:=beq_iff_eq.1 e1;omega
   have hkz:0 < kids.length:=hkl
   have hkz2:(0:Int) < kids.length:=by omega
   have h8:tags.length≤8:=by have:=inB_iff.1 e2;omega
   obtain ⟨bk,ok,rfl,hbk,ck0⟩:=x4 0 hkl
   have hi0:=hkk _ (List.getElem_mem hkl)
   have hkid:kid ⟨name,kind,size,little,bytes,names,tags,kids⟩ 0=kids[0]:=kid_at ⟨name,kind,size,little,bytes,names,tags,kids⟩ 0 (show 0 < kids.length from hkl)
   rw [hkid] at HO
   generalize kids[0]=k0 at*
   have HLB:=hlb k0
   have HE:=Lib.hid e2
   have hLM:∀W,Below w.heap.size w W→Calls Tryd.prog 94 #[.agg #[.slice Ad l.length cd], .int .i64 k0] W fun e w'=> e= .returned (.int .i64 (limitOf D k0))∧Below W.heap.size W w':=fun W hb=> HLIM.out W k0 hb hi0
   generalize limitOf D k0=lim at*
   have HLM:=Lib.hid hLM
   clear e2 hkk hlb HLIM hkid hLM hi0
   have hck:=cell_at hb2 (show bk < w.heap.size by omega) ck0
   have c0:((w.alloc (.cells #[.slice Ad l.length cd] 26)).alloc (.cells #[.string name, .int .i64 kind, .int .i64 size, .bool little, .slice Ab bytes.length cb, .slice An names.length cn, .slice At tags.length ct, .slice (some ⟨bk,ok,none⟩) kids.length ck] 73)).cell? ⟨w.heap.size,0,none⟩=some (.slice Ad l.length cd):=by simp [go_sem]
   have c6:((w.alloc (.cells #[.slice Ad l.length cd] 26)).alloc (.cells #[.string name, .int .i64 kind, .int .i64 size, .bool little, .slice Ab bytes.length cb, .slice An names.length cn, .slice At tags.length ct, .slice (some ⟨bk,ok,none⟩) kids.length ck] 73)).cell? ⟨w.heap.size+1,6,none⟩=some (.slice At tags.length ct):=by simp [go_sem]
   have c7:((w.alloc (.cells #[.slice Ad l.length cd] 26)).alloc (.cells #[.string name, .int .i64 kind, .int .i64 size, .bool little, .slice Ab bytes.length cb, .slice An names.length cn, .slice At tags.length ct, .slice (some ⟨bk,ok,none⟩) kids.length ck] 73)).cell? ⟨w.heap.size+1,7,none⟩=some (.slice (some ⟨bk,ok,none⟩) kids.length ck):=by simp [go_sem]
   have hz:((w.alloc (.cells #[.slice Ad l.length cd] 26)).alloc (.cells #[.string name, .int .i64 kind, .int .i64 size, .bool little, .slice Ab bytes.length cb, .slice An names.length cn, .slice At tags.length ct, .slice (some ⟨bk,ok,none⟩) kids.length ck] 73)).heap.size=w.heap.size+2:=by simp
   go_enter Tryd.func126,Tryd.ntmps126
   go_wp2_with (go_at_call 53;refine (l1In_any _ _ _ _).mono ?_;rintro e w1 ⟨rfl,rfl⟩;rw [HE.out])
   generalize ((w.alloc (.cells #[.slice Ad l.length cd] 26)).alloc (.cells #[.string name, .int .i64 kind, .int .i64 size, .bool little, .slice Ab bytes.length cb, .slice An names.length cn, .slice At tags.length ct, .slice (some ⟨bk,ok,none⟩) kids.length ck] 73))=W0 at*
   go_loopw [5] (fun i wr=> ∃k:Nat,k≤tags.length∧i= .int .i64 k∧Below W0.heap.size W0 wr∧allTo (tgAt lim tags) k=true) (fun i _=> tags.length - (intOf i).toNat)
   case atStart=> exact ⟨0,Nat.zero_le _,rfl,Below.refl _ _,rfl⟩
   case round=>
    obtain ⟨k,hkl2,rfl,hb,hall⟩:=hrel
    have d0:=cell_at hb (show w.heap.size < W0.heap.size by omega) c0
    have d6:=cell_at hb (show w.heap.size+1 < W0.heap.size by omega) c6
    have d7:=cell_at hb (show w.heap.size+1 < W0.heap.size by omega) c7
    have dk:=cell_at hb (show bk < W0.heap.size by omega) hck
    by_cases hlt:k < tags.length
    ·obtain ⟨bt,ot,rfl,hbt,ct0⟩:=x3 k hlt
     have dt:=cell_at hb (show bt < W0.heap.size by omega) (cell_at hb2 (show bt < w.heap.size by omega) ct0)
     have hno:=allTo_no (tgAt lim tags) k tags.length hlt
     have hst:=allTo_step (tgAt lim tags) k hall
     have b0:Below w.heap.size w wr.drew:=(hb2.trans (hb.mono (by omega))).drew
     have hbs:=hb.size
     have HB:=Lib.hid hb
     cases hin:inB tags[k] 0 lim
     ·have hf:tgAt lim tags k=false:=by
       cases k with
       |zero=> rw [tgAt_zero lim tags hlt,hin]
       |succ j=> rw [tgAt_succ lim tags j hlt,hin];rfl
      have HX:=Lib.hid (HO.out.trans (hno hf))
      generalize tags[k]=t at*
      have HT:=Lib.hid hin
      clear x3 ct0 ck0 hck c0 c6 c7 hno hst hin hf hall hb hkt
      go_wp2_with fail
      refine wp_region_held_drew (S:=(fun w9=> w9.cell? ⟨w.heap.size,0,none⟩=some (.slice Ad l.length cd)∧w9.cell? ⟨w.heap.size+1,6,none⟩=some (.slice (some ⟨bt,ot,none⟩) tags.length ct)∧w9.cell? ⟨w.heap.size+1,7,none⟩=some (.slice (some ⟨bk,ok,none⟩) kids.length ck)∧w9.cell? ⟨bk,ok,none⟩=some (.int .i64 k0)∧w9.cell? ⟨bt,ot+k,none⟩=some (.int .i64 t))) (by kernel_rfl) ?_ (fun hHeld=> ?_)
      ·(try dsimp only);exact ⟨d0,d6,d7,dk,dt⟩
      refine rgTake 0 (some 28) hHeld _ ?_;try go_frame
      refine rgTake 1 (some 29) hHeld _ ?_;try go_frame
      refine rgTake 2 (some 30) hHeld _ ?_;try go_frame
      refine rgTake 3 (some 31) hHeld _ ?_;try go_frame
      refine rgTake 4 (some 32) hHeld _ ?_;try go_frame
      refine rgTake 5 (some 33) hHeld _ ?_;try go_frame
      refine rgTake 6 (some 34) hHeld _ ?_;try go_frame
      refine rgTake 7 (some 35) hHeld _ ?_;try go_frame
      refine rgTake 8 (some 36) hHeld _ ?_;try go_frame
      refine rgTake 9 (some 37) hHeld _ ?_;try go_frame
      refine rgStep 10 (fun K hK=> ?_)
      go_simp
      refine (HLM.out _ b0).mono ?_;rintro e w2 ⟨rfl,bel⟩
      (try go_wp2_with fail)
      refine hK.out _ _ ?_ (fun hHeld=> ?_)
      ·(try dsimp only);exact ⟨cell_later bel d0,cell_later bel d6,cell_later bel d7,cell_later bel dk,cell_later bel dt⟩
      clear hK K
      try go_frame
      refine rgStep 11 (fun K hK=> ?_)
      go_simp
      refine (l1In_any _ _ _ _).mono ?_;rintro e w3 ⟨rfl,rfl⟩;rw [HT.out]
      (try go_wp2_with fail)
      refine hK.out _ _ ?_ (fun hHeld=> ?_)
      ·(try dsimp only);exact ⟨cell_later bel d0,cell_later bel d6,cell_later bel d7,cell_later bel dk,cell_later bel dt⟩
      clear hK K
      try go_frame
      refine rgTake 12 (some 40) hHeld _ ?_;try go_frame
      refine rgTake 13 (some 41) hHeld _ ?_;try go_frame
      refine rgSkip 14 (some 42) hHeld ?_;try go_frame
      refine rgSkip 15 (some 43) hHeld ?_;try go_frame
      refine rgSkip 16 (some 44) hHeld ?_;try go_frame
      refine rgSkip 17 (some 45) hHeld ?_;try go_frame
      refine rgSkip 18 (some 46) hHeld ?_;try go_frame
      refine rgSkip 19 (some 47) hHeld ?_;try go_frame
      refine rgSkip 20 (some 48) hHeld ?_;try go_frame
      refine rgSkip 21 (some 49) hHeld ?_;try go_frame
      refine rgSkip 22 (some 50) hHeld ?_;try go_frame
      refine rgSkip 23 (some 51) hHeld ?_;try go_frame
      refine rgSkip 24 (some 52) hHeld ?_;try go_frame
      refine rgSkip 25 (some 53) hHeld ?_;try go_frame
      refine rgSkip 26 (some 54) hHeld ?_;try go_frame
      refine rgSkip 27 (some 55) hHeld ?_;try go_frame
      refine rgSkip 28 (some 56) hHeld ?_;try go_frame
      refine rgSkip 29 (some 57) hHeld ?_;try go_frame
      refine rgTake 30 (some 58) hHeld _ ?_;try go_frame
      refine wpAnyH_done (by kernel_rfl) ?_ _
      all_goals (go_wp2;go_ret;exact ⟨ret_bool HX.out.symm,below_step bel b0⟩)
     ·cases k with
      |zero=>
       have HX:=Lib.hid (hst (by rw [tgAt_zero lim tags hlt,hin]))
       rw [Nat.add_zero] at dt
       generalize tags[0]=t at*
       have HT:=Lib.hid hin
       clear x3 ct0 ck0 hck c0 c6 c7 hno hst hin hall hb hkt
       go_wp2_with fail
       refine wp_region_held_drew (S:=(fun w9=> w9.cell? ⟨w.heap.size,0,none⟩=some (.slice Ad l.length cd)∧w9.cell? ⟨w.heap.size+1,6,none⟩=some (.slice (some ⟨bt,ot,none⟩) tags.length ct)∧w9.cell? ⟨w.heap.size+1,7,none⟩=some (.slice (some ⟨bk,ok,none⟩) kids.length ck)∧w9.cell? ⟨bk,ok,none⟩=some (.int .i64 k0)∧w9.cell? ⟨bt,ot,none⟩=some (.int .i64 t))) (by kernel_rfl) ?_ (fun hHeld=> ?_)
       ·(try dsimp only);exact ⟨d0,d6,d7,dk,dt⟩
       refine rgTake 0 (some 28) hHeld _ ?_;try go_frame
       refine rgTake 1 (some 29) hHeld _ ?_;try go_frame
       refine rgTake 2 (some 30) hHeld _ ?_;try go_frame
       refine rgTake 3 (some 31) hHeld _ ?_;try go_frame
       refine rgTake 4 (some 32) hHeld _ ?_;try go_frame
       refine rgTake 5 (some 33) hHeld _ ?_;try go_frame
       refine rgTake 6 (some 34) hHeld _ ?_;try go_frame
       refine rgTake 7 (some 35) hHeld _ ?_;try go_frame
       refine rgTake 8 (some 36) hHeld _ ?_;try go_frame
       refine rgTake 9 (some 37) hHeld _ ?_;try go_frame
       refine rgStep 10 (fun K hK=> ?_)
       go_simp
       refine (HLM.out _ b0).mono ?_;rintro e w2 ⟨rfl,bel⟩
       (try go_wp2_with fail)
       refine hK.out _ _ ?_ (fun hHeld=> ?_)
       ·(try dsimp only);exact ⟨cell_later bel d0,cell_later bel d6,cell_later bel d7,cell_later bel dk,cell_later bel dt⟩
       clear hK K
       try go_frame
       refine rgStep 11 (fun K hK=> ?_)
       go_simp
       refine (l1In_any _ _ _ _).mono ?_;rintro e w3 ⟨rfl,rfl⟩;rw [HT.out]
       (try go_wp2_with fail)
       refine hK.out _ _ ?_ (fun hHeld=> ?_)
       ·(try dsimp only);exact ⟨cell_later bel d0,cell_later bel d6,cell_later bel d7,cell_later bel dk,cell_later bel dt⟩
       clear hK K
       try go_frame
       refine rgTake 12 (some 40) hHeld _ ?_;try go_frame
       refine rgTake 13 (some 41) hHeld _ ?_;try go_frame
       refine rgTake 14 (some 42) hHeld _ ?_;try go_frame
       refine rgTake 15 (some 43) hHeld _ ?_;try go_frame
       refine rgTake 16 (some 44) hHeld _ ?_;try go_frame
       refine rgSkip 17 (some 45) hHeld ?_;try go_frame
       refine rgSkip 18 (some 46) hHeld ?_;try go_frame
       refine rgSkip 19 (some 47) hHeld ?_;try go_frame
       refine rgSkip 20 (some 48) hHeld ?_;try go_frame
       refine rgSkip 21 (some 49) hHeld ?_;try go_frame
       refine rgSkip 22 (some 50) hHeld ?_;try go_frame
       refine rgSkip 23 (some 51) hHeld ?_;try go_frame
       refine rgSkip 24 (some 52) hHeld ?_;try go_frame
       refine rgSkip 25 (some 53) hHeld ?_;try go_frame
       refine rgSkip 26 (some 54) hHeld ?_;try go_frame
       refine rgSkip 27 (some 55) hHeld ?_;try go_frame
       refine rgSkip 28 (some 56) hHeld ?_;try go_frame
       refine rgTake 29 (some 57) hHeld _ ?_;try go_frame
       refine rgTake 30 (some 58) hHeld _ ?_;try go_frame
       refine wpAnyH_done (by kernel_rfl) ?_ _
       all_goals
        go_wp2
        go_roundw
        case rel=> exact ⟨1,by omega,by go_num,HB.out.drew.trans (bel.mono hbs),HX.out⟩
        case measure=> simp [intOf];omega
      |succ j=>
       have hjl:j < tags.length:=by omega
       obtain ⟨bt',ot',ebt,hbt',cp0⟩:=x3 j hjl
       simp only [Option.some.injEq,Addr.mk.injEq] at ebt
       obtain ⟨rfl,rfl, -⟩:=ebt
       have dp:=cell_at hb (show bt < W0.heap.size by omega) (cell_at hb2 (show bt < w.heap.size by omega) cp0)
       have hsx:=tgAt_succ lim tags j hlt
       have hj1:IntKind.i64.wrap ((j:Int)+1 - 1)=(j:Int):=by rw [IntWalk.i64_in _ (by omega)];omega
       have hjp:(0:Int) < ((j+1:Nat):Int):=by omega
       have hj0:(0:Int)≤j:=by omega
       have hj5:IntKind.i64.wrap (j:Int)=(j:Int):=IntWalk.i64_in _ (by omega)
       have hj4:(0:Int)≤(j:Int)+1:=by omega
       have hj2:(j:Int) < tags.length:=by omega
       have hj3:(j:Int)+1 < tags.length:=by omega
       cases hlt':decide (tags[j] < tags[j+1])
       ·have hge:decide (tags[j+1]≤tags[j])=true:=decide_eq_true (by have:=of_decide_eq_false hlt';omega)
        have HX:=Lib.hid (HO.out.trans (hno (by rw [hsx,hin,hlt'];rfl)))
        generalize tags[j+1]=t at*
        generalize tags[j]=t' at*
        have HT:=Lib.hid hin
        clear x3 ct0 ck0 hck c0 c6 c7 hno hst hin hall hb hkt cp0 hsx hlt'
        go_wp2_with fail
        refine wp_region_held_drew (S:=(fun w9=> w9.cell? ⟨w.heap.size,0,none⟩=some (.slice Ad l.length cd)∧w9.cell? ⟨w.heap.size+1,6,none⟩=some (.slice (some ⟨bt,ot,none⟩) tags.length ct)∧w9.cell? ⟨w.heap.size+1,7,none⟩=some (.slice (some ⟨bk,ok,none⟩) kids.length ck)∧w9.cell? ⟨bk,ok,none⟩=some (.int .i64 k0)∧w9.cell? ⟨bt,ot+(j+1),none⟩=some (.int .i64 t)∧w9.cell? ⟨bt,ot+j,none⟩=some (.int .i64 t'))) (by kernel_rfl) ?_ (fun hHeld=> ?_)
        ·(try dsimp only);exact ⟨d0,d6,d7,dk,dt,dp⟩
        refine rgTake 0 (some 28) hHeld _ ?_;try go_frame
        refine rgTake 1 (some 29) hHeld _ ?_;try go_frame
        refine rgTake 2 (some 30) hHeld _ ?_;try go_frame
        refine rgTake 3 (some 31) hHeld _ ?_;try go_frame
        refine rgTake 4 (some 32) hHeld _ ?_;try go_frame
        refine rgTake 5 (some 33) hHeld _ ?_;try go_frame
        refine rgTake 6 (some 34) hHeld _ ?_;try go_frame
        refine rgTake 7 (some 35) hHeld _ ?_;try go_frame
        refine rgTake 8 (some 36) hHeld _ ?_;try go_frame
        refine rgTake 9 (some 37) hHeld _ ?_;try go_frame
        refine rgStep 10 (fun K hK=> ?_)
        go_simp
        refine (HLM.out _ b0).mono ?_;rintro e w2 ⟨rfl,bel⟩
        (try go_wp2_with fail)
        refine hK.out _ _ ?_ (fun hHeld=> ?_)
        ·(try dsimp only);exact ⟨cell_later bel d0,cell_later bel d6,cell_later bel d7,cell_later bel dk,cell_later bel dt,cell_later bel dp⟩
        clear hK K
        try go_frame
        refine rgStep 11 (fun K hK=> ?_)
        go_simp
        refine (l1In_any _ _ _ _).mono ?_;rintro e w3 ⟨rfl,rfl⟩;rw [HT.out]
        (try go_wp2_with fail)
        refine hK.out _ _ ?_ (fun hHeld=> ?_)
        ·(try dsimp only);exact ⟨cell_later bel d0,cell_later bel d6,cell_later bel d7,cell_later bel dk,cell_later bel dt,cell_later bel dp⟩
        clear hK K
        try go_frame
        refine rgTake 12 (some 40) hHeld _ ?_;try go_frame
        refine rgTake 13 (some 41) hHeld _ ?_;try go_frame
        refine rgTake 14 (some 42) hHeld _ ?_;try go_frame
        refine rgTake 15 (some 43) hHeld _ ?_;try go_frame
        refine rgTake 16 (some 44) hHeld _ ?_;try go_frame
        refine rgTake 17 (some 45) hHeld _ ?_;try go_frame
        refine rgTake 18 (some 46) hHeld _ ?_;try go_frame
        refine rgTake 19 (some 47) hHeld _ ?_;try go_frame
        refine rgTake 20 (some 48) hHeld _ ?_;try go_frame
        refine rgTake 21 (some 49) hHeld _ ?_;try go_frame
        refine rgTake 22 (some 50) hHeld _ ?_;try go_frame
        refine rgTake 23 (some 51) hHeld _ ?_;try go_frame
        refine rgTake 24 (some 52) hHeld _ ?_;try go_frame
        refine rgTake 25 (some 53) hHeld _ ?_;try go_frame
        refine rgTake 26 (some 54) hHeld _ ?_;try go_frame
        refine rgTake 27 (some 55) hHeld _ ?_;try go_frame
        refine rgTake 28 (some 56) hHeld _ ?_;try go_frame
        refine rgTake 29 (some 57) hHeld _ ?_;try go_frame
        refine rgTake 30 (some 58) hHeld _ ?_;try go_frame
        refine wpAnyH_done (by kernel_rfl) ?_ _
        all_goals (go_wp2;go_ret;exact ⟨ret_bool HX.out.symm,below_step bel b0⟩)
       ·have hge:decide (tags[j+1]≤tags[j])=false:=decide_eq_false (by have:=of_decide_eq_true hlt';omega)
        have HX:=Lib.hid (hst (by rw [hsx,hin,hlt'];rfl))
        generalize tags[j+1]=t at*
        generalize tags[j]=t' at*
        have HT:=Lib.hid hin
        clear x3 ct0 ck0 hck c0 c6 c7 hno hst hin hall hb hkt cp0 hsx hlt'
        go_wp2_with fail
        refine wp_region_held_drew (S:=(fun w9=> w9.cell? ⟨w.heap.size,0,none⟩=some (.slice Ad l.length cd)∧w9.cell? ⟨w.heap.size+1,6,none⟩=some (.slice (some ⟨bt,ot,none⟩) tags.length ct)∧w9.cell? ⟨w.heap.size+1,7,none⟩=some (.slice (some ⟨bk,ok,none⟩) kids.length ck)∧w9.cell? ⟨bk,ok,none⟩=some (.int .i64 k0)∧w9.cell? ⟨bt,ot+(j+1),none⟩=some (.int .i64 t)∧w9.cell? ⟨bt,ot+j,none⟩=some (.int .i64 t'))) (by kernel_rfl) ?_ (fun hHeld=> ?_)
        ·(try dsimp only);exact ⟨d0,d6,d7,dk,dt,dp⟩
        refine rgTake 0 (some 28) hHeld _ ?_;try go_frame
        refine rgTake 1 (some 29) hHeld _ ?_;try go_frame
        refine rgTake 2 (some 30) hHeld _ ?_;try go_frame
        refine rgTake 3 (some 31) hHeld _ ?_;try go_frame
        refine rgTake 4 (some 32) hHeld _ ?_;try go_frame
        refine rgTake 5 (some 33) hHeld _ ?_;try go_frame
        refine rgTake 6 (some 34) hHeld _ ?_;try go_frame
        refine rgTake 7 (some 35) hHeld _ ?_;try go_frame
        refine rgTake 8 (some 36) hHeld _ ?_;try go_frame
        refine rgTake 9 (some 37) hHeld _ ?_;try go_frame
        refine rgStep 10 (fun K hK=> ?_)
        go_simp
        refine (HLM.out _ b0).mono ?_;rintro e w2 ⟨rfl,bel⟩
        (try go_wp2_with fail)
        refine hK.out _ _ ?_ (fun hHeld=> ?_)
        ·(try dsimp only);exact ⟨cell_later bel d0,cell_later bel d6,cell_later bel d7,cell_later bel dk,cell_later bel dt,cell_later bel dp⟩
        clear hK K
        try go_frame
        refine rgStep 11 (fun K hK=> ?_)
        go_simp
        refine (l1In_any _ _ _ _).mono ?_;rintro e w3 ⟨rfl,rfl⟩;rw [HT.out]
        (try go_wp2_with fail)
        refine hK.out _ _ ?_ (fun hHeld=> ?_)
        ·(try dsimp only);exact ⟨cell_later bel d0,cell_later bel d6,cell_later bel d7,cell_later bel dk,cell_later bel dt,cell_later bel dp⟩
        clear hK K
        try go_frame
        refine rgTake 12 (some 40) hHeld _ ?_;try go_frame
        refine rgTake 13 (some 41) hHeld _ ?_;try go_frame
        refine rgTake 14 (some 42) hHeld _ ?_;try go_frame
        refine rgTake 15 (some 43) hHeld _ ?_;try go_frame
        refine rgTake 16 (some 44) hHeld _ ?_;try go_frame
        refine rgTake 17 (some 45) hHeld _ ?_;try go_frame
        refine rgTake 18 (some 46) hHeld _ ?_;try go_frame
        refine rgTake 19 (some 47) hHeld _ ?_;try go_frame
        refine rgTake 20 (some 48) hHeld _ ?_;try go_frame
        refine rgTake 21 (some 49) hHeld _ ?_;try go_frame
        refine rgTake 22 (some 50) hHeld _ ?_;try go_frame
        refine rgTake 23 (some 51) hHeld _ ?_;try go_frame
        refine rgTake 24 (some 52) hHeld _ ?_;try go_frame
        refine rgTake 25 (some 53) hHeld _ ?_;try go_frame
        refine rgTake 26 (some 54) hHeld _ ?_;try go_frame
        refine rgTake 27 (some 55) hHeld _ ?_;try go_frame
        refine rgTake 28 (some 56) hHeld _ ?_;try go_frame
        refine rgTake 29 (some 57) hHeld _ ?_;try go_frame
        refine rgTake 30 (some 58) hHeld _ ?_;try go_frame
        refine wpAnyH_done (by kernel_rfl) ?_ _
        all_goals
         go_wp2
         go_roundw
         case rel=> exact ⟨j+2,by omega,by go_num,HB.out.drew.trans (bel.mono hbs),HX.out⟩
         case measure=> simp [intOf];omega
    ·have hkl3:k=tags.length:=by omega
     have HX:=Lib.hid (HO.out.trans (by rw [←hkl3,hall]))
     have HB:=Lib.hid (hb2.trans (hb.mono (by omega)))
     clear hall hb hkl3 x3 hb2
     go_wp2
     go_ret
     exact ⟨ret_bool HX.out.symm,HB.out⟩
end Go.Proofs.YteldgdelmaeokaaDoor
namespace Go.Proofs.YteldgdelmaeokaaDoor
open Go.RowKit
end Go.Proofs.YteldgdelmaeokaaDoor
namespace Go.Proofs.YteldgdelmaeokaaDoor
open Go.RowKit
end Go.Proofs.YteldgdelmaeokaaDoor
