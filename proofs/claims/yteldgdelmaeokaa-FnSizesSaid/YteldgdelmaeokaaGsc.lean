/- The walk of impl.leastSizes. Conditions: the description reads as its rules, and is valid. -/
import Derived.Test.YteldgdelmaeokaaGsb
import Derived.Test.YteldgdelmaeokaaGb
import Derived.WalkSpells
import Derived.WalkLawsBesides
import Derived.Deep.RegionHeld3
import Derived.Laws.CopyOwn
set_option linter.unusedSimpArgs false
set_option linter.unusedVariables false
namespace Go.Proofs.Yteldgdelmaeokaa
open Go.RowKit
set_option maxHeartbeats 8000000 in
set_option maxRecDepth 100000 in
theorem leastSizes_any (v:Value) (l:List RM) (B:Nat) (w:World) (h:SlD w B v l) (hB:B≤w.heap.size) (hv:validD (l.map RM.d)=true):
  Calls Try.prog 17 #[.agg #[v]] w fun e w'=> e= .returned (.agg (tabL (mins (l.map RM.d) l.length)).toArray)∧Below w.heap.size w w':=by
 have hF:=validD_facts hv
 have hbd:=mins_bd hv
 have hlen:=hF.1
 rw [List.length_map] at hlen hbd
 have hR:∀k (hk:k < l.length),RuleF (l.map RM.d) k l[k].d∧(∀W,Below w.heap.size w W→l[k].rd W B)∧(l.map RM.d).getD k default=l[k].d:=fun k hk=> by
  refine ⟨?_,fun W hb=> (h.2 l[k] (List.getElem_mem hk)).below (hb.mono hB),?_⟩
  ·have:=hF.2 k (by simpa using hk)
   rwa [List.getElem_map] at this
  ·rw [getD_at (by simpa using hk),List.getElem_map]
 have HR:=Lib.hid hR
 have HBD:=Lib.hid hbd
 obtain ⟨A,c,rfl,hc,hm, -⟩:=h.open_
 have hcl:=fun k hk=> rule_cells h k hk
 have HC:=Lib.hid hcl
 unfold maxLen at hm
 clear hF hR hbd hv hcl
 generalize l.map RM.d=D at*
 have hbD:=Below.allocW w (.cells #[.slice A l.length c] 26) (Nat.le_refl _)
 have cD:(w.alloc (.cells #[.slice A l.length c] 26)).cell? ⟨w.heap.size,0,none⟩=some (.slice A l.length c):=by simp [go_sem]
 have hZ:∀W:World,Below w.heap.size w W→Below w.heap.size w ((W.alloc (.cells (tabL []).toArray 47)).alloc (.cells (tabL []).toArray 47)):=fun W hb=> (hb.alloc hb.size _).alloc (by have:=hb.size;simp;omega) _
 have hT:∀W:World,Tab ((W.alloc (.cells (tabL []).toArray 47)).alloc (.cells (tabL []).toArray 47)) (W.heap.size+1) []∧Tab ((W.alloc (.cells (tabL []).toArray 47)).alloc (.cells (tabL []).toArray 47)) W.heap.size []:=fun W=> ⟨heap_alloc2_new W _ _,heap_alloc2_old W _ _⟩
 have hbE:=hZ _ hbD
 have hTE:=hT (w.alloc (.cells #[.slice A l.length c] 26))
 have hz0:(w.alloc (.cells #[.slice A l.length c] 26)).heap.size=w.heap.size+1:=by simp
 rw [hz0] at hTE
 have cE:=cell_later (((Below.refl _ (w.alloc (.cells #[.slice A l.length c] 26))).alloc (Nat.le_refl _) (.cells (tabL []).toArray 47)).alloc (by simp) (.cells (tabL []).toArray 47)) cD
 have hzE:(((w.alloc (.cells #[.slice A l.length c] 26)).alloc (.cells (tabL []).toArray 47)).alloc (.cells (tabL []).toArray 47)).heap.size=w.heap.size+3:=by simp
 clear hbD cD hZ hT hz0
 obtain ⟨zt,hzt⟩:∃z,z=(tabL []).toArray:=⟨_,rfl⟩
 rw [←hzt] at hbE hTE cE hzE
 have hzl:zt= #[.int .i64 0, .int .i64 0, .int .i64 0, .int .i64 0, .int .i64 0, .int .i64 0, .int .i64 0, .int .i64 0, .int .i64 0, .int .i64 0, .int .i64 0, .int .i64 0, .int .i64 0, .int .i64 0, .int .i64 0, .int .i64 0, .int .i64 0, .int .i64 0, .int .i64 0, .int .i64 0, .int .i64 0, .int .i64 0, .int .i64 0, .int .i64 0]:=by rw [hzt];rfl
 have HZL:=Lib.hid hzl
 clear hzt hzl
 go_enter Try.func17,Try.ntmps17
 go_wp2_with fail
 rw [←HZL.out]
 generalize (((w.alloc (.cells #[.slice A l.length c] 26)).alloc (.cells zt 47)).alloc (.cells zt 47))=W0 at*
 clear HZL
 go_loopw [10] (fun i wr=> ∃k:Nat,k≤l.length∧i= .int .i64 k∧Below (w.heap.size+2) W0 wr∧Tab wr (w.heap.size+1+1) (mins D k)) (fun i _=> l.length - (intOf i).toNat)
 case atStart=> exact ⟨0,Nat.zero_le _,rfl,Below.refl _ _,hTE.1⟩
 case round=>
  obtain ⟨k,hk,rfl,hb0,hTab⟩:=hrel
  have hcD:=cell_at hb0 (show w.heap.size < w.heap.size+2 by omega) cE
  have hb:=hbE.trans (hb0.mono (by omega))
  have hszr:w.heap.size+3≤wr.heap.size:=by have:=hb0.size;omega
  have hbE0:=Lib.hid hbE
  have hzE0:w.heap.size+3≤W0.heap.size:=by omega
  have HTE:=Lib.hid hTE
  clear cE hzE hbE hTE
  by_cases hlt:k < l.length
  ·obtain ⟨b,off,A1,c1,A2,c2,A3,c3,A4,c4,rfl,hbB,e1,e2,e3,e4,m1,m2,m3,m4,hcell⟩:=HC.out k hlt
   obtain ⟨hf,hrd,hgd⟩:=HR.out k hlt
   obtain ⟨x0,x1,x2,x3,x4,x5,x6,x7⟩:=hcell wr (below_cells hb hB)
   have hmlen:=mins_length D k
   have hob:=HBD.out k (by omega)
   generalize hmo:mins D k=mo at*
   have hkid:=(hrd wr hb).k
   rw [e4] at hkid
   clear hcell
   generalize l[k]=r at*
   have hnx:mins D (k+1)=mo++ [min 401 (mnOf mo r.d)]:=by rw [mins,hmo,hgd]
   obtain ⟨mv,hmv⟩:∃m,m=min 401 (mnOf mo r.d):=⟨_,rfl⟩
   have HNX:=Lib.hid (show mo++ [mv]=mins D (k+1) by rw [hnx,hmv])
   have HMV:=Lib.hid hmv
   have HB:=Lib.hid hb0
   have HTB:=Lib.hid hTab
   have hTC:∀j (hj:j < mo.length),wr.cell? ⟨w.heap.size+1+1,j,none⟩=some (.int .i64 mo[j]):=fun j hj=> hTab.cell j hj
   unfold maxLen at m1 m4
   have hkx:=hf.kids
   have hkind:=hf.kind
   have hsize:=hf.size
   have bW:∀O,Below w.heap.size w (wr.alloc O):=fun O=> hb.alloc (by omega) O
   have HBW:=Lib.hid bW
   have hk24:k < 24:=by omega
   have HRD:=Lib.hid hrd
   have HE:=Lib.hid (And.intro e1 (And.intro e2 (And.intro e3 e4)))
   have HKX:=Lib.hid hkx
   have HOB:=Lib.hid hob
   have HML:=Lib.hid hmlen
   clear hnx hmv hgd hmo m2 m3 hb hb0 hTab bW hrd e1 e2 e3 e4
   by_cases q1:r.d.kind=1
   ·have HM:=Lib.hid (show mnOf mo r.d=r.d.size by unfold mnOf;rw [if_pos q1])
    rw [q1] at x1
    clear q1
    clear hkid hkx hf hTC hob hmlen
    have HM2:=Lib.hid (show min (r.d.size) 401=mv by rw [HMV.out,HM.out];omega)
    go_wp2_with fail
    refine (iMin_any _ _ _).mono ?_
    rintro e w4 ⟨rfl,bel4⟩
    rw [HM2.out]
    have hW4:Below wr.heap.size wr w4:=below_step bel4 ((Below.refl _ _).alloc (Nat.le_refl _) _)
    have hTk:Tab w4 (w.heap.size+1+1) mo:=HTB.out.later hW4
    have hst:=hTk.set (by have:=HML.out;omega) mv
    have hz4:=hTk.zero (by have:=HML.out;omega)
    have hf4:=hTk.free k
    have hs4:=hW4.size
    rw [HML.out] at hst hz4
    rw [HNX.out] at hst
    have hb5:=(HB.out.trans (hW4.mono (by omega))).setCell (p:=⟨w.heap.size+1+1,k,none⟩) (by show w.heap.size+2≤w.heap.size+1+1;omega) (.int .i64 mv)
    have H:=Lib.hid (And.intro hb5 hst)
    clear hb5 hst hTk hW4 bel4
    go_wp2
    go_roundw
    case rel=> exact ⟨k+1,by omega,by go_num,H.out.1,H.out.2⟩
    case measure=> simp [intOf];omega
   by_cases q2:r.d.kind=2
   ·have HM:=Lib.hid (show mnOf mo r.d=(r.d.bytes.length:Int) by unfold mnOf;rw [if_neg q1,if_pos q2])
    rw [q2] at x1
    clear q2
    clear hkid hkx hf hTC hob hmlen
    have HM2:=Lib.hid (show min ((r.d.bytes.length:Int)) 401=mv by rw [HMV.out,HM.out];omega)
    go_wp2_with fail
    refine (iMin_any _ _ _).mono ?_
    rintro e w4 ⟨rfl,bel4⟩
    rw [HM2.out]
    have hW4:Below wr.heap.size wr w4:=below_step bel4 ((Below.refl _ _).alloc (Nat.le_refl _) _)
    have hTk:Tab w4 (w.heap.size+1+1) mo:=HTB.out.later hW4
    have hst:=hTk.set (by have:=HML.out;omega) mv
    have hz4:=hTk.zero (by have:=HML.out;omega)
    have hf4:=hTk.free k
    have hs4:=hW4.size
    rw [HML.out] at hst hz4
    rw [HNX.out] at hst
    have hb5:=(HB.out.trans (hW4.mono (by omega))).setCell (p:=⟨w.heap.size+1+1,k,none⟩) (by show w.heap.size+2≤w.heap.size+1+1;omega) (.int .i64 mv)
    have H:=Lib.hid (And.intro hb5 hst)
    clear hb5 hst hTk hW4 bel4
    go_wp2
    go_roundw
    case rel=> exact ⟨k+1,by omega,by go_num,H.out.1,H.out.2⟩
    case measure=> simp [intOf];omega
   by_cases q3:r.d.kind=3
   ·have HM:=Lib.hid (show mnOf mo r.d=r.d.size by unfold mnOf;rw [if_neg q1,if_neg q2,if_pos q3])
    rw [q3] at x1
    clear q3
    clear hkid hkx hf hTC hob hmlen
    have HM2:=Lib.hid (show min (r.d.size) 401=mv by rw [HMV.out,HM.out];omega)
    go_wp2_with fail
    refine (iMin_any _ _ _).mono ?_
    rintro e w4 ⟨rfl,bel4⟩
    rw [HM2.out]
    have hW4:Below wr.heap.size wr w4:=below_step bel4 ((Below.refl _ _).alloc (Nat.le_refl _) _)
    have hTk:Tab w4 (w.heap.size+1+1) mo:=HTB.out.later hW4
    have hst:=hTk.set (by have:=HML.out;omega) mv
    have hz4:=hTk.zero (by have:=HML.out;omega)
    have hf4:=hTk.free k
    have hs4:=hW4.size
    rw [HML.out] at hst hz4
    rw [HNX.out] at hst
    have hb5:=(HB.out.trans (hW4.mono (by omega))).setCell (p:=⟨w.heap.size+1+1,k,none⟩) (by show w.heap.size+2≤w.heap.size+1+1;omega) (.int .i64 mv)
    have H:=Lib.hid (And.intro hb5 hst)
    clear hb5 hst hTk hW4 bel4
    go_wp2
    go_roundw
    case rel=> exact ⟨k+1,by omega,by go_num,H.out.1,H.out.2⟩
    case measure=> simp [intOf];omega
   by_cases q4:r.d.kind=4
   ·have hk1:r.d.kids.length=1:=(hf.c4 q4).1
    have hkp:0 < r.d.kids.length:=by omega
    obtain ⟨bk,ok,ck,ek, -, -,hbk,hkc⟩:=hkid.all hkp
    simp only [Value.slice.injEq] at ek
    obtain ⟨rfl, -,rfl⟩:=ek
    have hp0:0 < r.d.kids.length:=by omega
    have hx0:=hkx _ (List.getElem_mem hp0)
    have hc0:=hkc 0 hp0
    have hkd0:kid r.d 0=r.d.kids[0]:=kid_at r.d 0 hp0
    generalize hyg0:r.d.kids[0]=y0 at*
    clear hyg0
    obtain ⟨n0,rfl⟩:=Int.eq_ofNat_of_zero_le hx0.1
    have hn0:n0 < mo.length:=by omega
    have ho0:=hTC n0 hn0
    have ha0:at0 mo ((n0:Nat):Int)=mo[n0]:=at0_at mo n0 (by omega) hn0
    have hbd0:=at0_bd hob (by omega) ((n0:Nat):Int)
    rw [ha0] at hbd0
    generalize mo[n0]=z0 at*
    have fc0:=cell_later (Below.allocW wr (.cells #[.string r.d.name, .int .i64 4, .int .i64 r.d.size, .bool r.d.little, .slice A1 r.d.bytes.length c1, .slice A2 r.d.names.length c2, .slice A3 r.d.tags.length c3, .slice (some ⟨bk,ok,none⟩) r.d.kids.length c4] 38) (Nat.le_refl _)) hc0
    have fo0:=cell_later (Below.allocW wr (.cells #[.string r.d.name, .int .i64 4, .int .i64 r.d.size, .bool r.d.little, .slice A1 r.d.bytes.length c1, .slice A2 r.d.names.length c2, .slice A3 r.d.tags.length c3, .slice (some ⟨bk,ok,none⟩) r.d.kids.length c4] 38) (Nat.le_refl _)) ho0
    have hnk0:n0 < 24:=by omega
    have hni0:((n0:Nat):Int) < 24:=by omega
    have hkz0:(0:Int) < r.d.kids.length:=by omega
    rw [Nat.add_zero] at fc0
    have HM:=Lib.hid (show mnOf mo r.d=z0 by unfold mnOf;rw [if_neg q1,if_neg q2,if_neg q3,if_pos q4];rw [hkd0,ha0])
    rw [q4] at x1
    clear q4
    clear hkc hkx hf hob hkid hk1 hmlen hTC hc0 ho0 ha0 hkd0 hn0 hx0
    have HM2:=Lib.hid (show min (z0) 401=mv by rw [HMV.out,HM.out];omega)
    go_wp2_with fail
    refine (iMin_any _ _ _).mono ?_
    rintro e w4 ⟨rfl,bel4⟩
    rw [HM2.out]
    have hW4:Below wr.heap.size wr w4:=below_step bel4 ((Below.refl _ _).alloc (Nat.le_refl _) _)
    have hTk:Tab w4 (w.heap.size+1+1) mo:=HTB.out.later hW4
    have hst:=hTk.set (by have:=HML.out;omega) mv
    have hz4:=hTk.zero (by have:=HML.out;omega)
    have hf4:=hTk.free k
    have hs4:=hW4.size
    rw [HML.out] at hst hz4
    rw [HNX.out] at hst
    have hb5:=(HB.out.trans (hW4.mono (by omega))).setCell (p:=⟨w.heap.size+1+1,k,none⟩) (by show w.heap.size+2≤w.heap.size+1+1;omega) (.int .i64 mv)
    have H:=Lib.hid (And.intro hb5 hst)
    clear hb5 hst hTk hW4 bel4
    go_wp2
    go_roundw
    case rel=> exact ⟨k+1,by omega,by go_num,H.out.1,H.out.2⟩
    case measure=> simp [intOf];omega
   by_cases q5:r.d.kind=5
   ·have hk1:r.d.kids.length=2:=(hf.c5 q5).1
    have hkp:0 < r.d.kids.length:=by omega
    obtain ⟨bk,ok,ck,ek, -, -,hbk,hkc⟩:=hkid.all hkp
    simp only [Value.slice.injEq] at ek
    obtain ⟨rfl, -,rfl⟩:=ek
    have hp0:0 < r.d.kids.length:=by omega
    have hx0:=hkx _ (List.getElem_mem hp0)
    have hc0:=hkc 0 hp0
    have hkd0:kid r.d 0=r.d.kids[0]:=kid_at r.d 0 hp0
    generalize hyg0:r.d.kids[0]=y0 at*
    clear hyg0
    obtain ⟨n0,rfl⟩:=Int.eq_ofNat_of_zero_le hx0.1
    have hn0:n0 < mo.length:=by omega
    have ho0:=hTC n0 hn0
    have ha0:at0 mo ((n0:Nat):Int)=mo[n0]:=at0_at mo n0 (by omega) hn0
    have hbd0:=at0_bd hob (by omega) ((n0:Nat):Int)
    rw [ha0] at hbd0
    generalize mo[n0]=z0 at*
    have fc0:=cell_later (Below.allocW wr (.cells #[.string r.d.name, .int .i64 5, .int .i64 r.d.size, .bool r.d.little, .slice A1 r.d.bytes.length c1, .slice A2 r.d.names.length c2, .slice A3 r.d.tags.length c3, .slice (some ⟨bk,ok,none⟩) r.d.kids.length c4] 38) (Nat.le_refl _)) hc0
    have fo0:=cell_later (Below.allocW wr (.cells #[.string r.d.name, .int .i64 5, .int .i64 r.d.size, .bool r.d.little, .slice A1 r.d.bytes.length c1, .slice A2 r.d.names.length c2, .slice A3 r.d.tags.length c3, .slice (some ⟨bk,ok,none⟩) r.d.kids.length c4] 38) (Nat.le_refl _)) ho0
    have hnk0:n0 < 24:=by omega
    have hni0:((n0:Nat):Int) < 24:=by omega
    have hkz0:(0:Int) < r.d.kids.length:=by omega
    rw [Nat.add_zero] at fc0
    have HM:=Lib.hid (show mnOf mo r.d=z0 by unfold mnOf;rw [if_neg q1,if_neg q2,if_neg q3,if_neg q4,if_pos q5];rw [hkd0,ha0])
    rw [q5] at x1
    clear q5
    clear hkc hkx hf hob hkid hk1 hmlen hTC hc0 ho0 ha0 hkd0 hn0 hx0
    have HM2:=Lib.hid (show min (z0) 401=mv by rw [HMV.out,HM.out];omega)
    go_wp2_with fail
    refine (iMin_any _ _ _).mono ?_
    rintro e w4 ⟨rfl,bel4⟩
    rw [HM2.out]
    have hW4:Below wr.heap.size wr w4:=below_step bel4 ((Below.refl _ _).alloc (Nat.le_refl _) _)
    have hTk:Tab w4 (w.heap.size+1+1) mo:=HTB.out.later hW4
    have hst:=hTk.set (by have:=HML.out;omega) mv
    have hz4:=hTk.zero (by have:=HML.out;omega)
    have hf4:=hTk.free k
    have hs4:=hW4.size
    rw [HML.out] at hst hz4
    rw [HNX.out] at hst
    have hb5:=(HB.out.trans (hW4.mono (by omega))).setCell (p:=⟨w.heap.size+1+1,k,none⟩) (by show w.heap.size+2≤w.heap.size+1+1;omega) (.int .i64 mv)
    have H:=Lib.hid (And.intro hb5 hst)
    clear hb5 hst hTk hW4 bel4
    go_wp2
    go_roundw
    case rel=> exact ⟨k+1,by omega,by go_num,H.out.1,H.out.2⟩
    case measure=> simp [intOf];omega
   by_cases q6:r.d.kind=6
   ·have hk1:r.d.kids.length≤8∧1≤r.d.kids.length:=by have:=hf.c6 q6;omega
    have hkp:0 < r.d.kids.length:=by omega
    obtain ⟨bk,ok,ck,ek, -, -,hbk,hkc⟩:=hkid.all hkp
    simp only [Value.slice.injEq] at ek
    obtain ⟨rfl, -,rfl⟩:=ek
    have HM:=Lib.hid (show mnOf mo r.d=sumTo mo r.d.kids r.d.kids.length by unfold mnOf;rw [if_neg q1,if_neg q2,if_neg q3,if_neg q4,if_neg q5,if_pos q6])
    have hsb:=sumTo_bd hob (by omega) r.d.kids r.d.kids.length
    have hmv2:=hmlen
    have hcall:∀W,Below w.heap.size w W→Tab W (w.heap.size+1+1) mo→Calls Try.prog 32 #[.pointer (some ⟨w.heap.size+1+1,0,none⟩), .agg #[.string r.d.name, .int .i64 r.d.kind, .int .i64 r.d.size, .bool r.d.little, .slice A1 r.d.bytes.length c1, .slice A2 r.d.names.length c2, .slice A3 r.d.tags.length c3, .slice (some ⟨bk,ok,none⟩) r.d.kids.length c4]] W fun e w'=> e= .returned (.int .i64 (sumTo mo r.d.kids r.d.kids.length))∧Below W.heap.size W w':=fun W hbW hTW=> by
     have:=tabSum_any (w.heap.size+1+1) mo r B W (HRD.out W hbW) (by have:=hbW.size;omega) hTW (by omega) (fun x hx=> by have:=hkx x hx;omega) (by omega) hob
     unfold rmV at this
     obtain ⟨y1,y2,y3,y4⟩:=HE.out
     rw [y1,y2,y3,y4] at this
     exact this
    rw [q6] at hcall
    generalize sumTo mo r.d.kids r.d.kids.length=sj at*
    have HCL:=Lib.hid hcall
    rw [q6] at x1
    clear q6
    clear hkc hkx hf hob hkid hk1 hmlen hTC hcall hmv2
    have bW:=HBW.out (.cells #[.string r.d.name, .int .i64 6, .int .i64 r.d.size, .bool r.d.little, .slice A1 r.d.bytes.length c1, .slice A2 r.d.names.length c2, .slice A3 r.d.tags.length c3, .slice (some ⟨bk,ok,none⟩) r.d.kids.length c4] 38)
    have hTW:Tab (wr.alloc (.cells #[.string r.d.name, .int .i64 6, .int .i64 r.d.size, .bool r.d.little, .slice A1 r.d.bytes.length c1, .slice A2 r.d.names.length c2, .slice A3 r.d.tags.length c3, .slice (some ⟨bk,ok,none⟩) r.d.kids.length c4] 38)) (w.heap.size+1+1) mo:=HTB.out.later (Below.allocW wr (.cells #[.string r.d.name, .int .i64 6, .int .i64 r.d.size, .bool r.d.little, .slice A1 r.d.bytes.length c1, .slice A2 r.d.names.length c2, .slice A3 r.d.tags.length c3, .slice (some ⟨bk,ok,none⟩) r.d.kids.length c4] 38) (Nat.le_refl _))
    go_wp2_with fail
    refine (HCL.out _ bW hTW).mono ?_
    rintro e w2 ⟨rfl,bel⟩
    have hW2:=((Below.refl _ wr).alloc (Nat.le_refl _) (.cells #[.string r.d.name, .int .i64 6, .int .i64 r.d.size, .bool r.d.little, .slice A1 r.d.bytes.length c1, .slice A2 r.d.names.length c2, .slice A3 r.d.tags.length c3, .slice (some ⟨bk,ok,none⟩) r.d.kids.length c4] 38)).trans (bel.mono (by simp))
    clear bel hTW bW
    have HM2:=Lib.hid (show min (sj) 401=mv by rw [HMV.out,HM.out];omega)
    go_wp2_with fail
    refine (iMin_any _ _ _).mono ?_
    rintro e w4 ⟨rfl,bel4⟩
    rw [HM2.out]
    have hW4:Below wr.heap.size wr w4:=below_step bel4 hW2
    have hTk:Tab w4 (w.heap.size+1+1) mo:=HTB.out.later hW4
    have hst:=hTk.set (by have:=HML.out;omega) mv
    have hz4:=hTk.zero (by have:=HML.out;omega)
    have hf4:=hTk.free k
    have hs4:=hW4.size
    rw [HML.out] at hst hz4
    rw [HNX.out] at hst
    have hb5:=(HB.out.trans (hW4.mono (by omega))).setCell (p:=⟨w.heap.size+1+1,k,none⟩) (by show w.heap.size+2≤w.heap.size+1+1;omega) (.int .i64 mv)
    have H:=Lib.hid (And.intro hb5 hst)
    clear hb5 hst hTk hW4 bel4
    go_wp2
    go_roundw
    case rel=> exact ⟨k+1,by omega,by go_num,H.out.1,H.out.2⟩
    case measure=> simp [intOf];omega
   by_cases q7:r.d.kind=7
   ·have hk1:r.d.kids.length≤9∧2≤r.d.kids.length:=by have:=hf.c7 q7;omega
    have hkp:0 < r.d.kids.length:=by omega
    obtain ⟨bk,ok,ck,ek, -, -,hbk,hkc⟩:=hkid.all hkp
    simp only [Value.slice.injEq] at ek
    obtain ⟨rfl, -,rfl⟩:=ek
    have hp0:0 < r.d.kids.length:=by omega
    have hx0:=hkx _ (List.getElem_mem hp0)
    have hc0:=hkc 0 hp0
    have hkd0:kid r.d 0=r.d.kids[0]:=kid_at r.d 0 hp0
    generalize hyg0:r.d.kids[0]=y0 at*
    clear hyg0
    obtain ⟨n0,rfl⟩:=Int.eq_ofNat_of_zero_le hx0.1
    have hn0:n0 < mo.length:=by omega
    have ho0:=hTC n0 hn0
    have ha0:at0 mo ((n0:Nat):Int)=mo[n0]:=at0_at mo n0 (by omega) hn0
    have hbd0:=at0_bd hob (by omega) ((n0:Nat):Int)
    rw [ha0] at hbd0
    generalize mo[n0]=z0 at*
    have fc0:=cell_later (Below.allocW wr (.cells #[.string r.d.name, .int .i64 7, .int .i64 r.d.size, .bool r.d.little, .slice A1 r.d.bytes.length c1, .slice A2 r.d.names.length c2, .slice A3 r.d.tags.length c3, .slice (some ⟨bk,ok,none⟩) r.d.kids.length c4] 38) (Nat.le_refl _)) hc0
    have fo0:=cell_later (Below.allocW wr (.cells #[.string r.d.name, .int .i64 7, .int .i64 r.d.size, .bool r.d.little, .slice A1 r.d.bytes.length c1, .slice A2 r.d.names.length c2, .slice A3 r.d.tags.length c3, .slice (some ⟨bk,ok,none⟩) r.d.kids.length c4] 38) (Nat.le_refl _)) ho0
    have hnk0:n0 < 24:=by omega
    have hni0:((n0:Nat):Int) < 24:=by omega
    have hkz0:(0:Int) < r.d.kids.length:=by omega
    rw [Nat.add_zero] at fc0
    have HM:=Lib.hid (show mnOf mo r.d=minTo mo r.d.kids (r.d.kids.length - 2)+z0 by unfold mnOf;rw [if_neg q1,if_neg q2,if_neg q3,if_neg q4,if_neg q5,if_neg q6,if_pos q7,hkd0,ha0])
    have hsb:=minTo_bd hob (by omega) r.d.kids (r.d.kids.length - 2)
    have hmv2:=hmlen
    have hcall:∀W,Below w.heap.size w W→Tab W (w.heap.size+1+1) mo→Calls Try.prog 33 #[.pointer (some ⟨w.heap.size+1+1,0,none⟩), .agg #[.string r.d.name, .int .i64 r.d.kind, .int .i64 r.d.size, .bool r.d.little, .slice A1 r.d.bytes.length c1, .slice A2 r.d.names.length c2, .slice A3 r.d.tags.length c3, .slice (some ⟨bk,ok,none⟩) r.d.kids.length c4], .func (.func 18) #[] #[]] W fun e w'=> e= .returned (.int .i64 (minTo mo r.d.kids (r.d.kids.length - 2)))∧Below W.heap.size W w':=fun W hbW hTW=> by
     have:=tabMin_any (w.heap.size+1+1) mo r B W (HRD.out W hbW) (by have:=hbW.size;omega) hTW (by omega) (fun x hx=> by have:=hkx x hx;omega) ⟨hk1.2,hk1.1⟩ hob
     unfold rmV at this
     obtain ⟨y1,y2,y3,y4⟩:=HE.out
     rw [y1,y2,y3,y4] at this
     exact this
    rw [q7] at hcall
    generalize minTo mo r.d.kids (r.d.kids.length - 2)=sj at*
    have HCL:=Lib.hid hcall
    rw [q7] at x1
    clear q7
    clear hkc hkx hf hob hkid hk1 hmlen hTC hc0 ho0 ha0 hkd0 hn0 hx0 hcall hmv2
    have bW:=HBW.out (.cells #[.string r.d.name, .int .i64 7, .int .i64 r.d.size, .bool r.d.little, .slice A1 r.d.bytes.length c1, .slice A2 r.d.names.length c2, .slice A3 r.d.tags.length c3, .slice (some ⟨bk,ok,none⟩) r.d.kids.length c4] 38)
    have hTW:Tab (wr.alloc (.cells #[.string r.d.name, .int .i64 7, .int .i64 r.d.size, .bool r.d.little, .slice A1 r.d.bytes.length c1, .slice A2 r.d.names.length c2, .slice A3 r.d.tags.length c3, .slice (some ⟨bk,ok,none⟩) r.d.kids.length c4] 38)) (w.heap.size+1+1) mo:=HTB.out.later (Below.allocW wr (.cells #[.string r.d.name, .int .i64 7, .int .i64 r.d.size, .bool r.d.little, .slice A1 r.d.bytes.length c1, .slice A2 r.d.names.length c2, .slice A3 r.d.tags.length c3, .slice (some ⟨bk,ok,none⟩) r.d.kids.length c4] 38) (Nat.le_refl _))
    have g0:(wr.alloc (.cells #[.string r.d.name, .int .i64 7, .int .i64 r.d.size, .bool r.d.little, .slice A1 r.d.bytes.length c1, .slice A2 r.d.names.length c2, .slice A3 r.d.tags.length c3, .slice (some ⟨bk,ok,none⟩) r.d.kids.length c4] 38)).cell? ⟨wr.heap.size,0,none⟩=some (.string r.d.name):=by simp [go_sem]
    have g1:(wr.alloc (.cells #[.string r.d.name, .int .i64 7, .int .i64 r.d.size, .bool r.d.little, .slice A1 r.d.bytes.length c1, .slice A2 r.d.names.length c2, .slice A3 r.d.tags.length c3, .slice (some ⟨bk,ok,none⟩) r.d.kids.length c4] 38)).cell? ⟨wr.heap.size,1,none⟩=some (.int .i64 7):=by simp [go_sem]
    have g2:(wr.alloc (.cells #[.string r.d.name, .int .i64 7, .int .i64 r.d.size, .bool r.d.little, .slice A1 r.d.bytes.length c1, .slice A2 r.d.names.length c2, .slice A3 r.d.tags.length c3, .slice (some ⟨bk,ok,none⟩) r.d.kids.length c4] 38)).cell? ⟨wr.heap.size,2,none⟩=some (.int .i64 r.d.size):=by simp [go_sem]
    have g3:(wr.alloc (.cells #[.string r.d.name, .int .i64 7, .int .i64 r.d.size, .bool r.d.little, .slice A1 r.d.bytes.length c1, .slice A2 r.d.names.length c2, .slice A3 r.d.tags.length c3, .slice (some ⟨bk,ok,none⟩) r.d.kids.length c4] 38)).cell? ⟨wr.heap.size,3,none⟩=some (.bool r.d.little):=by simp [go_sem]
    have g4:(wr.alloc (.cells #[.string r.d.name, .int .i64 7, .int .i64 r.d.size, .bool r.d.little, .slice A1 r.d.bytes.length c1, .slice A2 r.d.names.length c2, .slice A3 r.d.tags.length c3, .slice (some ⟨bk,ok,none⟩) r.d.kids.length c4] 38)).cell? ⟨wr.heap.size,4,none⟩=some (.slice A1 r.d.bytes.length c1):=by simp [go_sem]
    have g5:(wr.alloc (.cells #[.string r.d.name, .int .i64 7, .int .i64 r.d.size, .bool r.d.little, .slice A1 r.d.bytes.length c1, .slice A2 r.d.names.length c2, .slice A3 r.d.tags.length c3, .slice (some ⟨bk,ok,none⟩) r.d.kids.length c4] 38)).cell? ⟨wr.heap.size,5,none⟩=some (.slice A2 r.d.names.length c2):=by simp [go_sem]
    have g6:(wr.alloc (.cells #[.string r.d.name, .int .i64 7, .int .i64 r.d.size, .bool r.d.little, .slice A1 r.d.bytes.length c1, .slice A2 r.d.names.length c2, .slice A3 r.d.tags.length c3, .slice (some ⟨bk,ok,none⟩) r.d.kids.length c4] 38)).cell? ⟨wr.heap.size,6,none⟩=some (.slice A3 r.d.tags.length c3):=by simp [go_sem]
    have g7:(wr.alloc (.cells #[.string r.d.name, .int .i64 7, .int .i64 r.d.size, .bool r.d.little, .slice A1 r.d.bytes.length c1, .slice A2 r.d.names.length c2, .slice A3 r.d.tags.length c3, .slice (some ⟨bk,ok,none⟩) r.d.kids.length c4] 38)).cell? ⟨wr.heap.size,7,none⟩=some (.slice (some ⟨bk,ok,none⟩) r.d.kids.length c4):=by simp [go_sem]
    go_wp2_with fail
    refine wp_region_held_drew (S:=(fun w9=> w9.cell? ⟨wr.heap.size,0,none⟩=some (.string r.d.name)∧w9.cell? ⟨wr.heap.size,1,none⟩=some (.int .i64 7)∧w9.cell? ⟨wr.heap.size,2,none⟩=some (.int .i64 r.d.size)∧w9.cell? ⟨wr.heap.size,3,none⟩=some (.bool r.d.little)∧w9.cell? ⟨wr.heap.size,4,none⟩=some (.slice A1 r.d.bytes.length c1)∧w9.cell? ⟨wr.heap.size,5,none⟩=some (.slice A2 r.d.names.length c2)∧w9.cell? ⟨wr.heap.size,6,none⟩=some (.slice A3 r.d.tags.length c3)∧w9.cell? ⟨wr.heap.size,7,none⟩=some (.slice (some ⟨bk,ok,none⟩) r.d.kids.length c4)∧w9.cell? ⟨bk,ok,none⟩=some (.int .i64 ((n0:Nat):Int))∧w9.cell? ⟨w.heap.size+1+1,n0,none⟩=some (.int .i64 z0))) (by kernel_rfl) ?_ (fun hHeld=> ?_)
    ·(try dsimp only);exact ⟨g0,g1,g2,g3,g4,g5,g6,g7,fc0,fo0⟩
    refine rgTake 0 (some 42) hHeld _ ?_;try go_frame
    refine rgTake 1 (some 43) hHeld _ ?_;try go_frame
    refine rgTake 2 (some 44) hHeld _ ?_;try go_frame
    refine rgTake 3 (some 45) hHeld _ ?_;try go_frame
    refine rgTake 4 (some 46) hHeld _ ?_;try go_frame
    refine rgTake 5 (some 47) hHeld _ ?_;try go_frame
    refine rgTake 6 (some 48) hHeld _ ?_;try go_frame
    refine rgStep 7 (fun K hK=> ?_)
    go_simp
    refine (HCL.out _ bW.drew hTW).mono ?_;rintro e w2 ⟨rfl,bel⟩;have hW2:=(((Below.refl _ wr).alloc (Nat.le_refl _) (.cells #[.string r.d.name, .int .i64 7, .int .i64 r.d.size, .bool r.d.little, .slice A1 r.d.bytes.length c1, .slice A2 r.d.names.length c2, .slice A3 r.d.tags.length c3, .slice (some ⟨bk,ok,none⟩) r.d.kids.length c4] 38)).drew).trans (bel.mono (by simp));have g0:=cell_later bel g0;have g1:=cell_later bel g1;have g2:=cell_later bel g2;have g3:=cell_later bel g3;have g4:=cell_later bel g4;have g5:=cell_later bel g5;have g6:=cell_later bel g6;have g7:=cell_later bel g7;have fc0:=cell_later bel fc0;have fo0:=cell_later bel fo0
    (try go_wp2_with fail)
    refine hK.out _ _ ?_ (fun hHeld=> ?_)
    ·(try dsimp only);exact ⟨g0,g1,g2,g3,g4,g5,g6,g7,fc0,fo0⟩
    clear hK K
    try go_frame
    refine rgTake 8 (some 50) hHeld _ ?_;try go_frame
    refine rgTake 9 (some 6) hHeld _ ?_;try go_frame
    refine wpAnyH_done (by kernel_rfl) ?_ _
    have HM2:=Lib.hid (show min (z0+sj) 401=mv by rw [HMV.out,HM.out];omega)
    go_wp2_with fail
    refine (iMin_any _ _ _).mono ?_
    rintro e w4 ⟨rfl,bel4⟩
    rw [HM2.out]
    have hW4:Below wr.heap.size wr w4:=below_step bel4 hW2
    have hTk:Tab w4 (w.heap.size+1+1) mo:=HTB.out.later hW4
    have hst:=hTk.set (by have:=HML.out;omega) mv
    have hz4:=hTk.zero (by have:=HML.out;omega)
    have hf4:=hTk.free k
    have hs4:=hW4.size
    rw [HML.out] at hst hz4
    rw [HNX.out] at hst
    have hb5:=(HB.out.trans (hW4.mono (by omega))).setCell (p:=⟨w.heap.size+1+1,k,none⟩) (by show w.heap.size+2≤w.heap.size+1+1;omega) (.int .i64 mv)
    have H:=Lib.hid (And.intro hb5 hst)
    clear hb5 hst hTk hW4 bel4
    go_wp2
    go_roundw
    case rel=> exact ⟨k+1,by omega,by go_num,H.out.1,H.out.2⟩
    case measure=> simp [intOf];omega
   by_cases q8:r.d.kind=8
   ·have HM:=Lib.hid (show mnOf mo r.d=1 by unfold mnOf;simp [q8])
    rw [q8] at x1
    clear q8
    clear hkid hkx hf hTC hob hmlen
    have HM2:=Lib.hid (show min (1) 401=mv by rw [HMV.out,HM.out];omega)
    go_wp2_with fail
    refine (iMin_any _ _ _).mono ?_
    rintro e w4 ⟨rfl,bel4⟩
    rw [HM2.out]
    have hW4:Below wr.heap.size wr w4:=below_step bel4 ((Below.refl _ _).alloc (Nat.le_refl _) _)
    have hTk:Tab w4 (w.heap.size+1+1) mo:=HTB.out.later hW4
    have hst:=hTk.set (by have:=HML.out;omega) mv
    have hz4:=hTk.zero (by have:=HML.out;omega)
    have hf4:=hTk.free k
    have hs4:=hW4.size
    rw [HML.out] at hst hz4
    rw [HNX.out] at hst
    have hb5:=(HB.out.trans (hW4.mono (by omega))).setCell (p:=⟨w.heap.size+1+1,k,none⟩) (by show w.heap.size+2≤w.heap.size+1+1;omega) (.int .i64 mv)
    have H:=Lib.hid (And.intro hb5 hst)
    clear hb5 hst hTk hW4 bel4
    go_wp2
    go_roundw
    case rel=> exact ⟨k+1,by omega,by go_num,H.out.1,H.out.2⟩
    case measure=> simp [intOf];omega
   by_cases q9:r.d.kind=9
   ·have hk1:r.d.kids.length=1:=hf.c8 (by omega)
    have hkp:0 < r.d.kids.length:=by omega
    obtain ⟨bk,ok,ck,ek, -, -,hbk,hkc⟩:=hkid.all hkp
    simp only [Value.slice.injEq] at ek
    obtain ⟨rfl, -,rfl⟩:=ek
    have hp0:0 < r.d.kids.length:=by omega
    have hx0:=hkx _ (List.getElem_mem hp0)
    have hc0:=hkc 0 hp0
    have hkd0:kid r.d 0=r.d.kids[0]:=kid_at r.d 0 hp0
    generalize hyg0:r.d.kids[0]=y0 at*
    clear hyg0
    obtain ⟨n0,rfl⟩:=Int.eq_ofNat_of_zero_le hx0.1
    have hn0:n0 < mo.length:=by omega
    have ho0:=hTC n0 hn0
    have ha0:at0 mo ((n0:Nat):Int)=mo[n0]:=at0_at mo n0 (by omega) hn0
    have hbd0:=at0_bd hob (by omega) ((n0:Nat):Int)
    rw [ha0] at hbd0
    generalize mo[n0]=z0 at*
    have fc0:=cell_later (Below.allocW wr (.cells #[.string r.d.name, .int .i64 9, .int .i64 r.d.size, .bool r.d.little, .slice A1 r.d.bytes.length c1, .slice A2 r.d.names.length c2, .slice A3 r.d.tags.length c3, .slice (some ⟨bk,ok,none⟩) r.d.kids.length c4] 38) (Nat.le_refl _)) hc0
    have fo0:=cell_later (Below.allocW wr (.cells #[.string r.d.name, .int .i64 9, .int .i64 r.d.size, .bool r.d.little, .slice A1 r.d.bytes.length c1, .slice A2 r.d.names.length c2, .slice A3 r.d.tags.length c3, .slice (some ⟨bk,ok,none⟩) r.d.kids.length c4] 38) (Nat.le_refl _)) ho0
    have hnk0:n0 < 24:=by omega
    have hni0:((n0:Nat):Int) < 24:=by omega
    have hkz0:(0:Int) < r.d.kids.length:=by omega
    rw [Nat.add_zero] at fc0
    have HM:=Lib.hid (show mnOf mo r.d=z0+1 by unfold mnOf;rw [if_neg q1,if_neg q2,if_neg q3,if_neg q4,if_neg q5,if_neg q6,if_neg q7,if_pos q9];rw [hkd0,ha0])
    rw [q9] at x1
    clear q9
    clear hkc hkx hf hob hkid hk1 hmlen hTC hc0 ho0 ha0 hkd0 hn0 hx0
    have HM2:=Lib.hid (show min (z0+1) 401=mv by rw [HMV.out,HM.out];omega)
    go_wp2_with fail
    refine (iMin_any _ _ _).mono ?_
    rintro e w4 ⟨rfl,bel4⟩
    rw [HM2.out]
    have hW4:Below wr.heap.size wr w4:=below_step bel4 ((Below.refl _ _).alloc (Nat.le_refl _) _)
    have hTk:Tab w4 (w.heap.size+1+1) mo:=HTB.out.later hW4
    have hst:=hTk.set (by have:=HML.out;omega) mv
    have hz4:=hTk.zero (by have:=HML.out;omega)
    have hf4:=hTk.free k
    have hs4:=hW4.size
    rw [HML.out] at hst hz4
    rw [HNX.out] at hst
    have hb5:=(HB.out.trans (hW4.mono (by omega))).setCell (p:=⟨w.heap.size+1+1,k,none⟩) (by show w.heap.size+2≤w.heap.size+1+1;omega) (.int .i64 mv)
    have H:=Lib.hid (And.intro hb5 hst)
    clear hb5 hst hTk hW4 bel4
    go_wp2
    go_roundw
    case rel=> exact ⟨k+1,by omega,by go_num,H.out.1,H.out.2⟩
    case measure=> simp [intOf];omega
   by_cases q10:r.d.kind=10
   ·have HM:=Lib.hid (show mnOf mo r.d=1 by unfold mnOf;simp [q10])
    rw [q10] at x1
    clear q10
    clear hkid hkx hf hTC hob hmlen
    have HM2:=Lib.hid (show min (1) 401=mv by rw [HMV.out,HM.out];omega)
    go_wp2_with fail
    refine (iMin_any _ _ _).mono ?_
    rintro e w4 ⟨rfl,bel4⟩
    rw [HM2.out]
    have hW4:Below wr.heap.size wr w4:=below_step bel4 ((Below.refl _ _).alloc (Nat.le_refl _) _)
    have hTk:Tab w4 (w.heap.size+1+1) mo:=HTB.out.later hW4
    have hst:=hTk.set (by have:=HML.out;omega) mv
    have hz4:=hTk.zero (by have:=HML.out;omega)
    have hf4:=hTk.free k
    have hs4:=hW4.size
    rw [HML.out] at hst hz4
    rw [HNX.out] at hst
    have hb5:=(HB.out.trans (hW4.mono (by omega))).setCell (p:=⟨w.heap.size+1+1,k,none⟩) (by show w.heap.size+2≤w.heap.size+1+1;omega) (.int .i64 mv)
    have H:=Lib.hid (And.intro hb5 hst)
    clear hb5 hst hTk hW4 bel4
    go_wp2
    go_roundw
    case rel=> exact ⟨k+1,by omega,by go_num,H.out.1,H.out.2⟩
    case measure=> simp [intOf];omega
   omega
  ·have hkl:k=l.length:=by omega
   rw [hkl] at hTab
   have hR0:Tab wr (w.heap.size+1) []:=HTE.out.2.keep hb0 (by omega)
   have hl24:(mins D l.length).length≤24:=by rw [mins_length];omega
   have hs1:(tabL (mins D l.length)).toArray.size=24:=by simp [tabL_length hl24]
   have hs0:(tabL []).toArray.size=(tabL (mins D l.length)).toArray.size:=by rw [hs1];rfl
   have hinfo:(Try.prog.info? 47).map (·.size)=some (tabL (mins D l.length)).toArray.size:=by rw [hs1];kernel_rfl
   have hone:(tabL (mins D l.length)).toArray.all (·.oneCell')=true:=by
    rw [Array.all_eq_true_iff_forall_mem]
    intro x hx
    rw [List.mem_toArray,tabL,List.mem_append] at hx
    rcases hx with hx|hx
    ·obtain ⟨y,_,rfl⟩:=List.mem_map.1 hx;rfl
    ·rw [List.eq_of_mem_replicate hx];rfl
   have hR1:=setRow_heap wr (w.heap.size+1) _ (tabL (mins D l.length)).toArray _ _ hR0
   have hbR:=below_setRow hb (show w.heap.size≤w.heap.size+1 by omega) (tabL (mins D l.length)).toArray
   unfold Tab at hTab hR0
   obtain ⟨tb,htb⟩:∃t,(tabL (mins D l.length)).toArray=t:=⟨_,rfl⟩
   have HQ:=Lib.hid htb
   rw [htb] at hTab hs0 hinfo hone hR1 hbR
   have H:=Lib.hid (And.intro hTab (And.intro hR0 (And.intro hs0 (And.intro hinfo (And.intro hone (And.intro hR1 hbR))))))
   clear htb hTab hR0 hs0 hinfo hone hR1 hbR hs1 hl24 hkl hb hb0
   go_wp2_with (first|(refine wpList_load_row rfl 47 _ rfl (w.heap.size+1+1) rfl _ _ _ _ H.out.1 Try.underlying47 rfl H.out.2.2.2.1 ?_)|(refine wpList_plain rfl fun _ hK=> wp_store_row 47 _ _ rfl (w.heap.size+1) tb rfl rfl _ _ H.out.2.1 H.out.2.2.2.1 H.out.2.2.1 H.out.2.2.2.2.1 (hK _ _ ?_)))
   refine bodyPost_ret (v:= .agg tb) ?_ rfl ⟨by rw [HQ.out],H.out.2.2.2.2.2.2⟩
   exact results_cell_row Try.results17 _ _ (w.heap.size+1) _ _ _ _ rfl H.out.2.2.2.2.2.1 Try.underlying47 rfl H.out.2.2.2.1
end Go.Proofs.Yteldgdelmaeokaa
