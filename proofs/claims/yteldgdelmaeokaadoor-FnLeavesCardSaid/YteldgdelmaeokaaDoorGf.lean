/- Out of DescK2, DescZ, DescZ2, DescO, DescAlt, StepW, FolP, ValP, ValPut, ValSz, ValTo, ValMk, ValPl, ValI: the walks and plain laws that the claim needs. No condition but those that each theorem names. -/
import Derived.Test.YteldgdelmaeokaaDoorGd
import Derived.WalkSpells
import Derived.WalkLawsBesides
import Derived.Deep.RegionHeld3
import Derived.BigQuiet
import Derived.Deep.QuietTactic
import Derived.Test.YteldgdelmaeokaaDoorGa
import Derived.Test.YteldgdelmaeokaaDoorGb
set_option linter.unusedSimpArgs false
set_option linter.unusedVariables false
namespace Go.Proofs.YteldgdelmaeokaaDoor
open Go.RowKit
end Go.Proofs.YteldgdelmaeokaaDoor
namespace Go.Proofs.YteldgdelmaeokaaDoor
open Go.RowKit
theorem l4Kind_any (v:Value) (l:List RM) (r:RM) (B:Nat) (w:World) (h:SlD w B v l) (hB:B≤w.heap.size) (ok:∀r∈l,r.d.ok) (hr:r.rd w B) (hk:r.d.ok) (hsm:r.d.small 1048576):
  Calls Tryd.prog 108 #[.agg #[v],rmV r] w fun e w'=> e= .returned (.bool (kindR (l.map RM.d) r.d && littleOk r.d))∧Below w.heap.size w w':=by
 by_cases q1:r.d.kind=1
 ·exact l4Kind_1 v l r B w h hB ok hr hk hsm q1
 by_cases q2:r.d.kind=2
 ·exact l4Kind_2 v l r B w h hB ok hr hk hsm q2
 by_cases q3:r.d.kind=3
 ·exact l4Kind_3 v l r B w h hB ok hr hk hsm q3
 by_cases q4:r.d.kind=4
 ·exact l4Kind_4 v l r B w h hB ok hr hk hsm q4
 by_cases q5:r.d.kind=5
 ·exact l4Kind_5 v l r B w h hB ok hr hk hsm q5
 by_cases q6:r.d.kind=6
 ·exact l4Kind_6 v l r B w h hB ok hr hk hsm q6
 by_cases q7:r.d.kind=7
 ·exact l4Kind_7 v l r B w h hB ok hr hk hsm q7
 by_cases q8:r.d.kind=8
 ·exact l4Kind_8 v l r B w h hB ok hr hk hsm q8
 by_cases q9:r.d.kind=9
 ·exact l4Kind_9 v l r B w h hB ok hr hk hsm q9
 by_cases q10:r.d.kind=10
 ·exact l4Kind_10 v l r B w h hB ok hr hk hsm q10
 exact l4Kind_0 v l r B w h hB ok hr hk hsm (by omega)
set_option maxHeartbeats 4000000 in
set_option maxRecDepth 100000 in
theorem specValidRule_any (v:Value) (l:List RM) (i:Int) (B:Nat) (w:World) (h:SlD w B v l) (hB:B≤w.heap.size) (hi:InI64 i) (ok:∀r∈l,r.d.ok) (sm:∀r∈l,r.d.small 1048576):
  Calls Tryd.prog 93 #[.agg #[v], .int .i64 i] w fun e w'=> e= .returned (.bool (validR (l.map RM.d) i))∧Below w.heap.size w w':=by
 have hKD:∀W r,r∈l→Below w.heap.size w W→Calls Tryd.prog 108 #[.agg #[v],rmV r] W fun e w'=> e= .returned (.bool (kindR (l.map RM.d) r.d && littleOk r.d))∧Below W.heap.size W w':=fun W r hr hb=>
  l4Kind_any v l r B W (h.below (hb.mono hB)) (by have:=hb.size;omega) ok ((h.2 r hr).below (hb.mono hB)) (ok r hr) (sm r hr)
 obtain ⟨A,cd,rfl,hc,hm,hcell⟩:=h.open_
 have hm0:=hm
 unfold maxLen at hm
 by_cases hr:0≤i∧i < l.length
 rotate_left
 ·have HV:=Lib.hid (show validR (l.map RM.d) i=false from validR_out _ _ (by simp;omega))
  have hbD:=Below.allocW w (.cells #[.slice A l.length cd] 26) (Nat.le_refl _)
  clear hcell hKD h
  go_enter Tryd.func93,Tryd.ntmps93
  go_wp2_with (go_at_call 53;refine (l1In_any _ _ _ _).mono ?_;rintro e w1 ⟨rfl,rfl⟩;rw [inB_false (by omega)])
  go_ret
  exact ⟨ret_bool HV.out.symm,hbD⟩
 ·obtain ⟨k,hk,rfl,hat⟩:=ruleAt_some (D:=l.map RM.d) hr.1 (by simpa using hr.2)
  have hkl:k < l.length:=by simpa using hk
  clear hat
  have HV:=Lib.hid (show validR (l.map RM.d) (k:Int)=ruleOk (l.map RM.d) k l[k].d by rw [validR_at _ k hk,List.getElem_map])
  have hKK:=fun W=> hKD W l[k] (List.getElem_mem hkl)
  have hrd:=h.2 l[k] (List.getElem_mem hkl)
  have hok:=ok l[k] (List.getElem_mem hkl)
  have hNM:∀j (hj:j < l.length),∃b off,A=some ⟨b,off,none⟩∧b < B∧w.cell? ⟨b,off+j*8,none⟩=some (.string l[j].d.name):=fun j hj=> by
   obtain ⟨b,off,e,hb,c,_⟩:=hcell j hj
   exact ⟨b,off,e,hb,c⟩
  have hOT:∀s j (hj:j < l.length),otherAt (l.map RM.d) s j= !(l[j].d.name.toList==s.toList):=fun s j hj=> by rw [otherAt_eq _ _ j (by simpa using hj),List.getElem_map]
  have HNM:=Lib.hid hNM
  have HOT:=Lib.hid hOT
  obtain ⟨bd,od,rfl,hbB,g0,g1,g2,g3,g4,g5,g6,g7⟩:=hcell k hkl
  clear hcell hNM hOT hk hKD ok sm h
  generalize hD:l.map RM.d=D at*
  clear hD
  generalize hre:l[k]=r at*
  obtain ⟨⟨name,kind,size,little,bytes,names,tags,kids⟩,vb,vn,vt,vk⟩:=r
  clear hre
  have h1:SlB w B vb bytes:=hrd.b
  have h2:SlS w B vn names:=hrd.n
  have h3:SlI w B vt tags:=hrd.t
  have h4:SlI w B vk kids:=hrd.k
  have hkn:name.size≤maxLen:=hok.name
  have hkk:∀a∈kids,InI64 a:=hok.kids
  obtain ⟨Ab,cb,rfl,hb1,hb2,x1⟩:=h1.open_
  obtain ⟨An,cn,rfl,hn1,hn2,x2⟩:=h2.one
  obtain ⟨At,ct,rfl,ht1,ht2,x3⟩:=h3.one
  obtain ⟨Ak,ck,rfl,hk1,hk2,x4⟩:=h4.one
  unfold rmV at hKK
  simp only at hKK g0 g1 g2 g3 g4 g5 g6 g7 HV
  clear hrd hok h1 h2 h3 h4 x1 x2 x3
  unfold maxLen at hb2 hn2 ht2 hk2
  have HKK:=Lib.hid hKK
  clear hKK
  have hO1:allTo (otherAt D name) k=false→ruleOk D k ⟨name,kind,size,little,bytes,names,tags,kids⟩=false:=fun h=> by unfold ruleOk;simp only;rw [h];rfl
  have hO2:allTo (otherAt D name) k=true→ruleOk D k ⟨name,kind,size,little,bytes,names,tags,kids⟩=(allTo (kidAt kids (k:Int)) kids.length && (isName name && (kindR D ⟨name,kind,size,little,bytes,names,tags,kids⟩ && littleOk ⟨name,kind,size,little,bytes,names,tags,kids⟩))):=fun h=> by unfold ruleOk;simp only;rw [h];rfl
  generalize (kindR D ⟨name,kind,size,little,bytes,names,tags,kids⟩ && littleOk ⟨name,kind,size,little,bytes,names,tags,kids⟩)=kd at*
  generalize ruleOk D k ⟨name,kind,size,little,bytes,names,tags,kids⟩=rk at*
  have b0:Below w.heap.size w ((w.alloc (.cells #[.slice (some ⟨bd,od,none⟩) l.length cd] 26)).alloc (.cells #[.string name, .int .i64 kind, .int .i64 size, .bool little, .slice Ab bytes.length cb, .slice An names.length cn, .slice At tags.length ct, .slice Ak kids.length ck] 73)):=(((Below.refl _ _).alloc (Nat.le_refl _) _).alloc (by simp) _)
  have cD:((w.alloc (.cells #[.slice (some ⟨bd,od,none⟩) l.length cd] 26)).alloc (.cells #[.string name, .int .i64 kind, .int .i64 size, .bool little, .slice Ab bytes.length cb, .slice An names.length cn, .slice At tags.length ct, .slice Ak kids.length ck] 73)).cell? ⟨w.heap.size,0,none⟩=some (.slice (some ⟨bd,od,none⟩) l.length cd):=by simp [go_sem]
  have c0:((w.alloc (.cells #[.slice (some ⟨bd,od,none⟩) l.length cd] 26)).alloc (.cells #[.string name, .int .i64 kind, .int .i64 size, .bool little, .slice Ab bytes.length cb, .slice An names.length cn, .slice At tags.length ct, .slice Ak kids.length ck] 73)).cell? ⟨w.heap.size+1,0,none⟩=some (.string name):=by simp [go_sem]
  have c1:((w.alloc (.cells #[.slice (some ⟨bd,od,none⟩) l.length cd] 26)).alloc (.cells #[.string name, .int .i64 kind, .int .i64 size, .bool little, .slice Ab bytes.length cb, .slice An names.length cn, .slice At tags.length ct, .slice Ak kids.length ck] 73)).cell? ⟨w.heap.size+1,1,none⟩=some (.int .i64 kind):=by simp [go_sem]
  have c2:((w.alloc (.cells #[.slice (some ⟨bd,od,none⟩) l.length cd] 26)).alloc (.cells #[.string name, .int .i64 kind, .int .i64 size, .bool little, .slice Ab bytes.length cb, .slice An names.length cn, .slice At tags.length ct, .slice Ak kids.length ck] 73)).cell? ⟨w.heap.size+1,2,none⟩=some (.int .i64 size):=by simp [go_sem]
  have c3:((w.alloc (.cells #[.slice (some ⟨bd,od,none⟩) l.length cd] 26)).alloc (.cells #[.string name, .int .i64 kind, .int .i64 size, .bool little, .slice Ab bytes.length cb, .slice An names.length cn, .slice At tags.length ct, .slice Ak kids.length ck] 73)).cell? ⟨w.heap.size+1,3,none⟩=some (.bool little):=by simp [go_sem]
  have c4:((w.alloc (.cells #[.slice (some ⟨bd,od,none⟩) l.length cd] 26)).alloc (.cells #[.string name, .int .i64 kind, .int .i64 size, .bool little, .slice Ab bytes.length cb, .slice An names.length cn, .slice At tags.length ct, .slice Ak kids.length ck] 73)).cell? ⟨w.heap.size+1,4,none⟩=some (.slice Ab bytes.length cb):=by simp [go_sem]
  have c5:((w.alloc (.cells #[.slice (some ⟨bd,od,none⟩) l.length cd] 26)).alloc (.cells #[.string name, .int .i64 kind, .int .i64 size, .bool little, .slice Ab bytes.length cb, .slice An names.length cn, .slice At tags.length ct, .slice Ak kids.length ck] 73)).cell? ⟨w.heap.size+1,5,none⟩=some (.slice An names.length cn):=by simp [go_sem]
  have c6:((w.alloc (.cells #[.slice (some ⟨bd,od,none⟩) l.length cd] 26)).alloc (.cells #[.string name, .int .i64 kind, .int .i64 size, .bool little, .slice Ab bytes.length cb, .slice An names.length cn, .slice At tags.length ct, .slice Ak kids.length ck] 73)).cell? ⟨w.heap.size+1,6,none⟩=some (.slice At tags.length ct):=by simp [go_sem]
  have c7:((w.alloc (.cells #[.slice (some ⟨bd,od,none⟩) l.length cd] 26)).alloc (.cells #[.string name, .int .i64 kind, .int .i64 size, .bool little, .slice Ab bytes.length cb, .slice An names.length cn, .slice At tags.length ct, .slice Ak kids.length ck] 73)).cell? ⟨w.heap.size+1,7,none⟩=some (.slice Ak kids.length ck):=by simp [go_sem]
  have hz:((w.alloc (.cells #[.slice (some ⟨bd,od,none⟩) l.length cd] 26)).alloc (.cells #[.string name, .int .i64 kind, .int .i64 size, .bool little, .slice Ab bytes.length cb, .slice An names.length cn, .slice At tags.length ct, .slice Ak kids.length ck] 73)).heap.size=w.heap.size+2:=by simp
  generalize hW0:((w.alloc (.cells #[.slice (some ⟨bd,od,none⟩) l.length cd] 26)).alloc (.cells #[.string name, .int .i64 kind, .int .i64 size, .bool little, .slice Ab bytes.length cb, .slice An names.length cn, .slice At tags.length ct, .slice Ak kids.length ck] 73))=W0 at*
  have HW0:=Lib.hid hW0
  clear hW0
  have HO1:=Lib.hid hO1
  have HO2:=Lib.hid hO2
  clear hO1 hO2
  have hin:inB (k:Int) 0 ((l.length:Int) - 1)=true:=inB_true (by omega) (by omega)
  have HIN:=Lib.hid hin
  clear hin
  have hbD:=Below.allocW w (.cells #[.slice (some ⟨bd,od,none⟩) l.length cd] 26) (Nat.le_refl _)
  have d0:=cell_later hbD g0
  have d1:=cell_later hbD g1
  have d2:=cell_later hbD g2
  have d3:=cell_later hbD g3
  have d4:=cell_later hbD g4
  have d5:=cell_later hbD g5
  have d6:=cell_later hbD g6
  have d7:=cell_later hbD g7
  clear g1 g2 g3 g4 g5 g6 g7 g0 hbD
  go_enter Tryd.func93,Tryd.ntmps93
  go_wp2_with (go_at_call 53;refine (l1In_any _ _ _ _).mono ?_;rintro e w1 ⟨rfl,rfl⟩;rw [HIN.out])
  rw [HW0.out]
  clear d0 d1 d2 d3 d4 d5 d6 d7
  go_loopw [6] (fun i wr=> ∃j n:Nat,j≤k∧i= .int .i64 j∧wr=W0.drewN n∧allTo (otherAt D name) j=true) (fun i _=> k - (intOf i).toNat)
  case atStart=> exact ⟨0,0,Nat.zero_le _,rfl,rfl,rfl⟩
  case round=>
   obtain ⟨j,n,hj,rfl,hw,hall⟩:=hrel
   have HW:=Lib.hid hw
   by_cases hlt:j < k
   ·obtain ⟨b,off,e,hbB2,hcn⟩:=HNM.out j (by omega)
    simp only [Option.some.injEq,Addr.mk.injEq,and_true] at e
    obtain ⟨rfl,rfl⟩:=e
    have hcr:wr.cell? ⟨bd,od+j*8,none⟩=some (.string l[j].d.name):=by rw [hw];exact cell_at b0 (show bd < w.heap.size by omega) hcn
    have d0:wr.cell? ⟨w.heap.size+1,0,none⟩=some (.string name):=by rw [hw];exact c0
    have dD:wr.cell? ⟨w.heap.size,0,none⟩=some (.slice (some ⟨bd,od,none⟩) l.length cd):=by rw [hw];exact cD
    have hot:=HOT.out name j (by omega)
    have hno:=allTo_no (otherAt D name) j k hlt
    have hst:=allTo_step (otherAt D name) j hall
    have hjl:j < l.length:=by omega
    generalize l[j]=y at*
    clear hcn hall hw
    cases he:(y.d.name.toList==name.toList)
    ·have HX:=Lib.hid (hst (by rw [hot,he];rfl))
     clear hst hno hot cD c0 c7
     go_wp2_with fail
     go_quiet (fail)
     go_wp2
     go_roundw
     case rel=> exact ⟨j+1,_,by omega,by go_num,by rw [HW.out];exact World.drewN_drewN _ _ _,HX.out⟩
     case measure=> simp [intOf];omega
    ·have HX:=Lib.hid (HV.out.trans (HO1.out (hno (by rw [hot,he];rfl))))
     clear hst hno hot cD c0 c7
     go_wp2_with fail
     go_quiet (fail)
     go_wp2
     go_ret
     exact ⟨ret_bool HX.out.symm,by rw [HW.out];exact below_drewN (below_drewN b0 _) _⟩
   ·have hjk:j=k:=by omega
    have HY:=Lib.hid (HV.out.trans (HO2.out (by rw [←hjk];exact hall)))
    have bw:Below w.heap.size w wr:=by rw [hw];exact below_drewN b0 _
    have dD:wr.cell? ⟨w.heap.size,0,none⟩=some (.slice (some ⟨bd,od,none⟩) l.length cd):=by rw [hw];exact cD
    have d0:wr.cell? ⟨w.heap.size+1,0,none⟩=some (.string name):=by rw [hw];exact c0
    have d1:wr.cell? ⟨w.heap.size+1,1,none⟩=some (.int .i64 kind):=by rw [hw];exact c1
    have d2:wr.cell? ⟨w.heap.size+1,2,none⟩=some (.int .i64 size):=by rw [hw];exact c2
    have d3:wr.cell? ⟨w.heap.size+1,3,none⟩=some (.bool little):=by rw [hw];exact c3
    have d4:wr.cell? ⟨w.heap.size+1,4,none⟩=some (.slice Ab bytes.length cb):=by rw [hw];exact c4
    have d5:wr.cell? ⟨w.heap.size+1,5,none⟩=some (.slice An names.length cn):=by rw [hw];exact c5
    have d6:wr.cell? ⟨w.heap.size+1,6,none⟩=some (.slice At tags.length ct):=by rw [hw];exact c6
    have d7:wr.cell? ⟨w.heap.size+1,7,none⟩=some (.slice Ak kids.length ck):=by rw [hw];exact c7
    clear hall hjk HO1 HO2 HV HOT HNM hw HW cD c0 c1 c2 c3 c4 c5 c6 c7
    go_wp2_with fail
    go_loop [7] (fun i=> ∃j:Nat,j≤kids.length∧i= .int .i64 j∧allTo (kidAt kids (k:Int)) j=true) (fun i=> kids.length - (intOf i).toNat)
    case atStart=> exact ⟨0,Nat.zero_le _,rfl,rfl⟩
    case round=>
     obtain ⟨j,hj,rfl,hall⟩:=hrel
     by_cases hlt:j < kids.length
     ·obtain ⟨bk,ok,rfl,hbk,ck0⟩:=x4 j hlt
      have hck:=cell_at bw (show bk < w.heap.size by omega) ck0
      have hka:=kidAt_eq kids (k:Int) j hlt
      have hno:=allTo_no (kidAt kids (k:Int)) j kids.length hlt
      have hst:=allTo_step (kidAt kids (k:Int)) j hall
      generalize kids[j]=x at*
      cases he:inB x 0 ((k:Int) - 1)
      ·have HX:=Lib.hid (HY.out.trans (show _=false by rw [hno (by rw [hka,he])];rfl))
       have HE:=Lib.hid he
       clear hst hno hka hall he x4 ck0
       go_wp2_with (go_at_call 53;refine (l1In_any _ _ _ _).mono ?_;rintro e w1 ⟨rfl,rfl⟩;rw [HE.out])
       go_ret
       exact ⟨ret_bool HX.out.symm,bw⟩
      ·have HX:=Lib.hid (hst (by rw [hka,he]))
       have HE:=Lib.hid he
       clear hst hno hka hall he x4 ck0
       go_wp2_with (go_at_call 53;refine (l1In_any _ _ _ _).mono ?_;rintro e w1 ⟨rfl,rfl⟩;rw [HE.out])
       go_round
       case rel=> exact ⟨j+1,by omega,by go_num,HX.out⟩
       case measure=> simp [intOf];omega
     ·have hjk:j=kids.length:=by omega
      have HZ:=Lib.hid (HY.out.trans (show _=(isName name && kd) by rw [←hjk,hall];rfl))
      clear hall hjk x4 HY
      cases hn:isName name
      ·have HN:=Lib.hid hn
       have HX:=Lib.hid (HZ.out.trans (by rw [hn];try rfl))
       clear hn HZ
       go_wp2_with fail
       refine (specIsName_any name _ hkn).mono ?_
       rintro e w1 ⟨rfl,rfl⟩
       rw [HN.out]
       go_wp2
       go_ret
       exact ⟨ret_bool HX.out.symm,bw⟩
      ·have HN:=Lib.hid hn
       have HX:=Lib.hid (HZ.out.trans (by rw [hn];try rfl))
       clear hn HZ
       go_wp2_with fail
       refine (specIsName_any name _ hkn).mono ?_
       rintro e w1 ⟨rfl,rfl⟩
       rw [HN.out]
       go_wp2_with fail
       refine (HKK.out _ bw).mono ?_
       rintro e w2 ⟨rfl,bel⟩
       have b2:=below_step bel bw
       clear bel
       go_wp2
       go_ret
       exact ⟨ret_bool HX.out.symm,b2⟩
end Go.Proofs.YteldgdelmaeokaaDoor
namespace Go.Proofs.YteldgdelmaeokaaDoor
open Go.RowKit
set_option maxHeartbeats 1000000 in
theorem specValid_any (v:Value) (l:List RM) (B:Nat) (w:World) (h:SlD w B v l) (hB:B≤w.heap.size) (ok:∀r∈l,r.d.ok) (sm:∀r∈l,r.d.small 1048576):
  Calls Tryd.prog 76 #[.agg #[v]] w fun e w'=> e= .returned (.bool (validD (l.map RM.d)))∧Below w.heap.size w w':=by
 have hVR:∀W i,Below w.heap.size w W→InI64 i→Calls Tryd.prog 93 #[.agg #[v], .int .i64 i] W fun e w'=> e= .returned (.bool (validR (l.map RM.d) i))∧Below W.heap.size W w':=fun W i hb hi=>
  specValidRule_any v l i B W (h.below (hb.mono hB)) (by have:=hb.size;omega) hi ok sm
 have HVR:=Lib.hid hVR
 have HU:=Lib.hid (show validD (l.map RM.d)=(allTo (fun k:Nat=> validR (l.map RM.d) k) l.length && inB l.length 1 24) by unfold validD;rw [List.length_map])
 obtain ⟨A,c,rfl,hc,hm, -⟩:=h.open_
 unfold maxLen at hm
 clear h hVR ok sm
 generalize l.map RM.d=D at*
 have hbD:=Below.allocW w (.cells #[.slice A l.length c] 26) (Nat.le_refl _)
 have cD:(w.alloc (.cells #[.slice A l.length c] 26)).cell? ⟨w.heap.size,0,none⟩=some (.slice A l.length c):=by simp [go_sem]
 have hz:(w.alloc (.cells #[.slice A l.length c] 26)).heap.size=w.heap.size+1:=by simp
 go_enter Tryd.func76,Tryd.ntmps76
 go_wp2_with fail
 generalize (w.alloc (.cells #[.slice A l.length c] 26))=W0 at*
 go_loopw [3] (fun i wr=> ∃j:Nat,j≤l.length∧i= .int .i64 j∧Below W0.heap.size W0 wr∧allTo (fun k:Nat=> validR D k) j=true) (fun i _=> l.length - (intOf i).toNat)
 case atStart=> exact ⟨0,Nat.zero_le _,rfl,Below.refl _ _,rfl⟩
 case round=>
  obtain ⟨j,hj,rfl,hb,hall⟩:=hrel
  have cr:=cell_at hb (show w.heap.size < W0.heap.size by omega) cD
  have hbw:=hbD.trans (hb.mono (by omega))
  have hsz:=hb.size
  by_cases hlt:j < l.length
  ·have hno:=allTo_no (fun k:Nat=> validR D k) j l.length hlt
   have hst:=allTo_step (fun k:Nat=> validR D k) j hall
   have hcall:=HVR.out wr j hbw ⟨by omega,by omega⟩
   (try simp only at hno hst)
   cases hv:validR D j
   ·have HX:=Lib.hid (HU.out.trans (show _=false by rw [hno hv];rfl))
    rw [hv] at hcall
    have HC:=Lib.hid hcall
    have HB:=Lib.hid hbw
    clear hno hst hv hcall hall hb hbw
    go_wp2_with fail
    refine HC.out.mono ?_
    rintro e w1 ⟨rfl,bel⟩
    have b1:=below_step bel HB.out
    clear bel
    go_wp2
    go_ret
    exact ⟨ret_bool HX.out.symm,b1⟩
   ·have HX:=Lib.hid (hst hv)
    rw [hv] at hcall
    have HC:=Lib.hid hcall
    have HB:=Lib.hid hb
    clear hno hst hv hcall hall hb hbw
    go_wp2_with fail
    refine HC.out.mono ?_
    rintro e w1 ⟨rfl,bel⟩
    have b1:=HB.out.trans (bel.mono hsz)
    clear bel
    go_wp2
    go_roundw
    case rel=> exact ⟨j+1,by omega,by go_num,b1,HX.out⟩
    case measure=> simp [intOf];omega
  ·have hjk:j=l.length:=by omega
   have HX:=Lib.hid (HU.out.trans (show _=inB l.length 1 24 by rw [←hjk,hall];rfl))
   clear hjk hall
   go_wp2_with (go_at_call 53;refine (l1In_any _ _ _ _).mono ?_;rintro e w1 ⟨rfl,rfl⟩)
   go_ret
   exact ⟨ret_bool HX.out.symm,hbw⟩
set_option maxHeartbeats 1000000 in
theorem specKnown_any (v:Value) (l:List RM) (i:Int) (B:Nat) (w:World) (h:SlD w B v l) (hB:B≤w.heap.size) (ok:∀r∈l,r.d.ok) (sm:∀r∈l,r.d.small 1048576):
  Calls Tryd.prog 40 #[.agg #[v], .int .i64 i] w fun e w'=> e= .returned (.bool (knownD (l.map RM.d) i))∧Below w.heap.size w w':=by
 have hV:∀W,Below w.heap.size w W→Calls Tryd.prog 76 #[.agg #[v]] W fun e w'=> e= .returned (.bool (validD (l.map RM.d)))∧Below W.heap.size W w':=fun W hb=>
  specValid_any v l B W (h.below (hb.mono hB)) (by have:=hb.size;omega) ok sm
 have HV:=Lib.hid hV
 have HU:=Lib.hid (show knownD (l.map RM.d) i=(inB i 0 ((l.length:Int) - 1) && validD (l.map RM.d)) by unfold knownD;rw [List.length_map])
 obtain ⟨A,c,rfl,hc,hm, -⟩:=h.open_
 unfold maxLen at hm
 clear h hV ok sm
 generalize l.map RM.d=D at*
 have hbD:=Below.allocW w (.cells #[.slice A l.length c] 26) (Nat.le_refl _)
 cases hin:inB i 0 ((l.length:Int) - 1)
 ·have HX:=Lib.hid (HU.out.trans (show _=false by rw [hin];rfl))
  have HE:=Lib.hid hin
  clear hin HU
  go_enter Tryd.func40,Tryd.ntmps40
  go_wp2_with (go_at_call 53;refine (l1In_any _ _ _ _).mono ?_;rintro e w1 ⟨rfl,rfl⟩;rw [HE.out])
  go_ret
  exact ⟨ret_bool HX.out.symm,hbD⟩
 ·have HX:=Lib.hid (HU.out.trans (show _=validD D by rw [hin];rfl))
  have HE:=Lib.hid hin
  clear hin HU
  go_enter Tryd.func40,Tryd.ntmps40
  go_wp2_with (go_at_call 53;refine (l1In_any _ _ _ _).mono ?_;rintro e w1 ⟨rfl,rfl⟩;rw [HE.out])
  refine (HV.out _ hbD).mono ?_
  rintro e w1 ⟨rfl,bel⟩
  have b1:=below_step bel hbD
  clear bel
  go_wp2
  go_ret
  exact ⟨ret_bool HX.out.symm,b1⟩
end Go.Proofs.YteldgdelmaeokaaDoor
namespace Go.Proofs.YteldgdelmaeokaaDoor
open Go.RowKit
structure okD (D:List RuleD):Prop where
 ok:∀r∈D,r.ok
 sm:∀r∈D,r.small 1048576
theorem okD.l {l:List RM} (h:okD (l.map RM.d)):(∀r∈l,r.d.ok)∧∀r∈l,r.d.small 1048576:=⟨fun r hr=> h.ok _ (List.mem_map_of_mem hr),fun r hr=> h.sm _ (List.mem_map_of_mem hr)⟩
theorem OwD.slice {D:List RuleD} {lo hi:Nat} {w:World} {v:Value} (h:OwD D lo hi w v):∃A c,v= .slice A D.length c:=by
 obtain ⟨l,m,rfl,h2,_⟩:=h
 obtain ⟨A,c,e⟩:=row_slice h2
 exact ⟨A,c,by rw [e,List.length_map]⟩
end Go.Proofs.YteldgdelmaeokaaDoor
namespace Go.Proofs.YteldgdelmaeokaaDoor
open Go.RowKit
theorem knownD_at {D:List RuleD} {i:Int} (h:knownD D i=true):0≤i∧i < D.length:=by
 unfold knownD at h
 rw [Bool.and_eq_true] at h
 have:=inB_iff.1 h.1
 omega
theorem knownD_valid {D:List RuleD} {i:Int} (h:knownD D i=true):validD D=true:=by
 unfold knownD at h
 rw [Bool.and_eq_true] at h
 exact h.2
theorem rule_cells {w:World} {B:Nat} {A:Option Addr} {c:Nat} {l:List RM} (h:SlD w B (.slice A l.length c) l) (k:Nat) (hk:k < l.length):
  ∃b off A1 c1 A2 c2 A3 c3 A4 c4,A=some ⟨b,off,none⟩∧b < B∧l[k].vb= .slice A1 l[k].d.bytes.length c1∧l[k].vn= .slice A2 l[k].d.names.length c2∧l[k].vt= .slice A3 l[k].d.tags.length c3∧l[k].vk= .slice A4 l[k].d.kids.length c4∧
   l[k].d.bytes.length≤maxLen∧l[k].d.names.length≤maxLen∧l[k].d.tags.length≤maxLen∧l[k].d.kids.length≤maxLen∧
   ∀W:World,(∀b o,b < B→W.cell? ⟨b,o,none⟩=w.cell? ⟨b,o,none⟩)→W.cell? ⟨b,off+k*8,none⟩=some (.string l[k].d.name)∧W.cell? ⟨b,off+k*8+1,none⟩=some (.int .i64 l[k].d.kind)∧
   W.cell? ⟨b,off+k*8+2,none⟩=some (.int .i64 l[k].d.size)∧W.cell? ⟨b,off+k*8+3,none⟩=some (.bool l[k].d.little)∧W.cell? ⟨b,off+k*8+4,none⟩=some (.slice A1 l[k].d.bytes.length c1)∧
   W.cell? ⟨b,off+k*8+5,none⟩=some (.slice A2 l[k].d.names.length c2)∧W.cell? ⟨b,off+k*8+6,none⟩=some (.slice A3 l[k].d.tags.length c3)∧W.cell? ⟨b,off+k*8+7,none⟩=some (.slice A4 l[k].d.kids.length c4):=by
 obtain ⟨A0,c0,e0,hc,hm,hcell⟩:=h.open_
 simp only [Value.slice.injEq] at e0
 obtain ⟨rfl,_,rfl⟩:=e0
 obtain ⟨b,off,e,hb,x0,x1,x2,x3,x4,x5,x6,x7⟩:=hcell k hk
 have hr:=h.2 l[k] (List.getElem_mem hk)
 obtain ⟨A1,c1,y1,z1,z2, -⟩:=hr.b.open_
 obtain ⟨A2,c2,y2,z3,z4, -⟩:=hr.n.one
 obtain ⟨A3,c3,y3,z5,z6, -⟩:=hr.t.one
 obtain ⟨A4,c4,y4,z7,z8, -⟩:=hr.k.one
 rw [y1] at x4
 rw [y2] at x5
 rw [y3] at x6
 rw [y4] at x7
 refine ⟨b,off,A1,c1,A2,c2,A3,c3,A4,c4,e,hb,y1,y2,y3,y4,by omega,by omega,by omega,by omega,fun W hW=> ?_⟩
 exact ⟨(hW _ _ hb).trans x0,(hW _ _ hb).trans x1,(hW _ _ hb).trans x2,(hW _ _ hb).trans x3,(hW _ _ hb).trans x4,(hW _ _ hb).trans x5,(hW _ _ hb).trans x6,(hW _ _ hb).trans x7⟩
theorem below_cells {B:Nat} {w W:World} (h:Below w.heap.size w W) (hB:B≤w.heap.size):∀b o,b < B→W.cell? ⟨b,o,none⟩=w.cell? ⟨b,o,none⟩:=fun b o hb=> h.cell (p:=⟨b,o,none⟩) (by show b < _;omega)
end Go.Proofs.YteldgdelmaeokaaDoor
namespace Go.Proofs.YteldgdelmaeokaaDoor
open Go.RowKit
def stepR (r:RuleD) (i:Int):ByteArray:=
 if r.kind=5 then str (fmtI i)
 else if r.kind=6∧i < r.names.length then r.names.getD i.toNat ⟨#[]⟩
 else if 0 < i then ⟨#[]⟩
 else if r.kind=7 then ⟨#[42]⟩ else if r.kind=8 then ⟨#[63]⟩ else if r.kind=9 then ⟨#[43]⟩ else ⟨#[]⟩
theorem stepR_5 {r:RuleD} {i:Int} (h:r.kind=5):stepR r i=str (fmtI i):=by unfold stepR;rw [if_pos h]
theorem stepR_6 {r:RuleD} {k:Nat} (h:r.kind=6) (hk:k < r.names.length):stepR r k=r.names[k]:=by
 unfold stepR
 rw [if_neg (by omega),if_pos ⟨h,by omega⟩,Int.toNat_natCast,List.getD_eq_getElem?_getD,List.getElem?_eq_getElem hk]
 rfl
theorem stepR_pos {r:RuleD} {i:Int} (h5:r.kind≠5) (h6:¬(r.kind=6∧i < r.names.length)) (hi:0 < i):stepR r i=⟨#[]⟩:=by unfold stepR;rw [if_neg h5,if_neg h6,if_pos hi]
theorem stepR_zero {r:RuleD} (h5:r.kind≠5) (h6:¬(r.kind=6∧(0:Int) < r.names.length)):stepR r 0=if r.kind=7 then ⟨#[42]⟩ else if r.kind=8 then ⟨#[63]⟩ else if r.kind=9 then ⟨#[43]⟩ else ⟨#[]⟩:=by
 unfold stepR;rw [if_neg h5,if_neg h6,if_neg (by omega)]
set_option maxHeartbeats 2000000 in
theorem l18Step_any (r:RM) (i:Int) (B:Nat) (w:World) (h:r.rd w B) (hB:B≤w.heap.size) (hi0:0≤i) (hi1:i≤9223372036854775807) (sm:r.d.small 1048576):
  Calls Tryd.prog 75 #[rmV r, .int .i64 i] w fun e w'=> e= .returned (.string (stepR r.d i))∧Below w.heap.size w w':=by
 have hF:∀W,Below w.heap.size w W→Calls Tryd.prog 23 #[.int .i64 i] W fun e w'=> e= .returned (.string (str (fmtI i)))∧Below W.heap.size W w':=fun W h=> specFormatInt_any i W ⟨by omega,hi1⟩
 have HF:=Lib.hid hF
 clear hF
 obtain ⟨Ab,cb,eb, -⟩:=h.b.open_
 obtain ⟨An,cn,en,hcn,hmn,hcell⟩:=h.n.one
 obtain ⟨At,ct,et, -⟩:=h.t.one
 obtain ⟨Ak,ck,ek, -⟩:=h.k.one
 have hnm:=sm.names
 clear h
 unfold rmV
 rw [eb,en,et,ek]
 clear eb en et ek sm
 generalize r.d=d at*
 obtain ⟨cs,hcs⟩:∃cs:Array Value,cs= #[.string d.name, .int .i64 d.kind, .int .i64 d.size, .bool d.little, .slice Ab d.bytes.length cb, .slice An d.names.length cn, .slice At d.tags.length ct, .slice Ak d.kids.length ck]:=⟨_,rfl⟩
 have hbD:=Below.allocW w (.cells cs 73) (Nat.le_refl _)
 subst hcs
 by_cases q5:d.kind=5
 ·have HX:=Lib.hid (stepR_5 (i:=i) q5)
  rw [q5] at hbD ⊢
  clear hcell q5
  go_enter Tryd.func75,Tryd.ntmps75
  go_wp2_with fail
  refine (HF.out _ hbD).mono ?_
  rintro e w1 ⟨rfl,bel⟩
  have HB:=Lib.hid (below_step bel hbD)
  clear bel hbD
  go_wp2
  go_ret
  exact ⟨ret_str HX.out.symm,HB.out⟩
 have f5:(d.kind==5)=false:=beq_eq_false_iff_ne.2 q5
 by_cases q6:d.kind=6∧i < d.names.length
 ·obtain ⟨q6,q6'⟩:=q6
  obtain ⟨k,rfl⟩:=Int.eq_ofNat_of_zero_le hi0
  have hk:k < d.names.length:=by omega
  have HX:=Lib.hid (stepR_6 q6 hk)
  obtain ⟨b,off,rfl,hbB,hc0⟩:=hcell k hk
  have hd0:=(hbD.mono hB).cell (p:=⟨b,off+k,none⟩) hbB|>.trans hc0
  rw [q6] at hbD hd0 ⊢
  clear hcell q5 f5 q6 hc0 HF
  go_enter Tryd.func75,Tryd.ntmps75
  go_wp2
  go_ret
  exact ⟨ret_str HX.out.symm,hbD⟩
 have HD:=Lib.hid hcell
 clear hcell HF HD
 by_cases hz:0 < i
 ·have HX:=Lib.hid (stepR_pos q5 q6 hz)
  have z1:(i==0)=false:=beq_eq_false_iff_ne.2 (by omega)
  by_cases r6:d.kind=6
  ·have hge:(d.names.length:Int)≤i:=by omega
   rw [r6] at hbD ⊢
   clear q5 f5 q6 r6
   go_enter Tryd.func75,Tryd.ntmps75
   go_wp2
   go_ret
   exact ⟨ret_str HX.out.symm,hbD⟩
  ·have f6:(d.kind==6)=false:=beq_eq_false_iff_ne.2 r6
   have HQ:=Lib.hid q6
   clear q5 q6 r6
   by_cases r7:d.kind=7
   ·rw [r7] at hbD ⊢;clear r7 f5 f6;go_enter Tryd.func75,Tryd.ntmps75;go_wp2;go_ret;exact ⟨ret_str HX.out.symm,hbD⟩
   by_cases r8:d.kind=8
   ·rw [r8] at hbD ⊢;clear r7 r8 f5 f6;go_enter Tryd.func75,Tryd.ntmps75;go_wp2;go_ret;exact ⟨ret_str HX.out.symm,hbD⟩
   by_cases r9:d.kind=9
   ·rw [r9] at hbD ⊢;clear r7 r8 r9 f5 f6;go_enter Tryd.func75,Tryd.ntmps75;go_wp2;go_ret;exact ⟨ret_str HX.out.symm,hbD⟩
   have f7:(d.kind==7)=false:=beq_eq_false_iff_ne.2 r7
   have f8:(d.kind==8)=false:=beq_eq_false_iff_ne.2 r8
   have f9:(d.kind==9)=false:=beq_eq_false_iff_ne.2 r9
   clear r7 r8 r9
   go_enter Tryd.func75,Tryd.ntmps75
   go_wp2
   go_ret
   exact ⟨ret_str HX.out.symm,hbD⟩
 ·obtain rfl:i=0:=by omega
  have HX:=Lib.hid (stepR_zero q5 q6)
  by_cases r6:d.kind=6
  ·have hge:(d.names.length:Int)=0:=by omega
   have hX2:=HX.out.trans (by rw [if_neg (by omega),if_neg (by omega),if_neg (by omega)])
   have HX2:=Lib.hid hX2
   have hge':d.names.length=0:=by omega
   clear hX2 HX
   rw [r6,hge'] at hbD
   rw [r6,hge']
   clear q5 f5 q6 r6 hge hnm
   go_enter Tryd.func75,Tryd.ntmps75
   go_wp2
   go_ret
   exact ⟨ret_str HX2.out.symm,hbD⟩
  ·have f6:(d.kind==6)=false:=beq_eq_false_iff_ne.2 r6
   clear q5 q6 r6
   by_cases r7:d.kind=7
   ·have HY:=Lib.hid (HX.out.trans (if_pos r7))
    rw [r7] at hbD ⊢;clear r7 f5 f6;go_enter Tryd.func75,Tryd.ntmps75;go_wp2;go_ret;exact ⟨ret_str HY.out.symm,hbD⟩
   by_cases r8:d.kind=8
   ·have HY:=Lib.hid (HX.out.trans ((if_neg r7).trans (if_pos r8)))
    rw [r8] at hbD ⊢;clear r7 r8 f5 f6;go_enter Tryd.func75,Tryd.ntmps75;go_wp2;go_ret;exact ⟨ret_str HY.out.symm,hbD⟩
   by_cases r9:d.kind=9
   ·have HY:=Lib.hid (HX.out.trans ((if_neg r7).trans ((if_neg r8).trans (if_pos r9))))
    rw [r9] at hbD ⊢;clear r7 r8 r9 f5 f6;go_enter Tryd.func75,Tryd.ntmps75;go_wp2;go_ret;exact ⟨ret_str HY.out.symm,hbD⟩
   have HY:=Lib.hid (HX.out.trans ((if_neg r7).trans ((if_neg r8).trans (if_neg r9))))
   have f7:(d.kind==7)=false:=beq_eq_false_iff_ne.2 r7
   have f8:(d.kind==8)=false:=beq_eq_false_iff_ne.2 r8
   have f9:(d.kind==9)=false:=beq_eq_false_iff_ne.2 r9
   clear r7 r8 r9
   go_enter Tryd.func75,Tryd.ntmps75
   go_wp2
   go_ret
   exact ⟨ret_str HY.out.symm,hbD⟩
end Go.Proofs.YteldgdelmaeokaaDoor
namespace Go.Proofs.YteldgdelmaeokaaDoor
open Go.RowKit
def firstTo (p:Nat→Bool):Nat→Int
 |0=> -1
 |k+1=> if 0≤firstTo p k then firstTo p k else if p k then k else -1
theorem firstTo_no {p:Nat→Bool}:∀{n:Nat},(∀k,k < n→p k=false)→firstTo p n= -1
 |0,_=> rfl
 |n+1,h=> by
  rw [firstTo,firstTo_no (n:=n) fun k hk=> h k (by omega),if_neg (by omega),h n (by omega)];rfl
theorem firstTo_at {p:Nat→Bool}:∀{n k:Nat},k < n→p k=true→(∀j,j < k→p j=false)→firstTo p n=k
 |0,k,h,_,_=> by omega
 |n+1,k,h,hp,hj=> by
  rw [firstTo]
  by_cases e:k=n
  ·subst e
   rw [firstTo_no hj,if_neg (by omega),if_pos hp]
  ·rw [firstTo_at (n:=n) (by omega) hp hj,if_pos (by omega)]
def hitT (t s:ByteArray):Bool:= !t.toList.isEmpty && t.toList==s.toList
def folR (r:RuleD) (m:Nat) (s:ByteArray):Int:=firstTo (fun i=> hitT (stepR r i) s) m
def followOf (D:List RuleD) (rule:Int) (m:Nat) (s:ByteArray):Int:=
 if knownD D rule then (match ruleAt D rule with|none=> -1|some r=> folR r m s) else -1
end Go.Proofs.YteldgdelmaeokaaDoor
namespace Go.Proofs.YteldgdelmaeokaaDoor
open Go.RowKit
def tagAt (r:RuleD) (n:Int):Int:=firstTo (fun j=> r.tags[j]?==some n) r.tags.length
theorem tagAt_no {r:RuleD} {n:Int} (h:∀k (hk:k < r.tags.length),r.tags[k]≠n):tagAt r n= -1:=
 firstTo_no fun k hk=> by rw [List.getElem?_eq_getElem hk];simpa using h k hk
theorem tagAt_at {r:RuleD} {n:Int} {k:Nat} (hk:k < r.tags.length) (h:r.tags[k]=n) (hn:∀j (hj:j < k),(r.tags[j]'(by omega))≠n):tagAt r n=k:=
 firstTo_at hk (by rw [List.getElem?_eq_getElem hk];simpa using h) fun j hj=> by rw [List.getElem?_eq_getElem (show j < r.tags.length by omega)];simpa using hn j hj
theorem firstTo_bd (p:Nat→Bool) (n:Nat):firstTo p n= -1∨∃k:Nat,k < n∧firstTo p n=k∧p k=true:=by
 induction n with
 |zero=> exact .inl rfl
 |succ n ih=>
  rw [firstTo]
  rcases ih with e|⟨k,hk,e,hp⟩
  ·rw [e,if_neg (by omega)]
   cases hq:p n
   ·exact .inl rfl
   ·exact .inr ⟨n,by omega,by rw [if_pos rfl],hq⟩
  ·rw [e,if_pos (by omega)]
   exact .inr ⟨k,by omega,rfl,hp⟩
theorem tagAt_bd (r:RuleD) (n:Int):tagAt r n= -1∨∃k:Nat,∃hk:k < r.tags.length,tagAt r n=k∧r.tags[k]=n:=by
 rcases firstTo_bd (fun j=> r.tags[j]?==some n) r.tags.length with e|⟨k,hk,e,hp⟩
 ·exact .inl e
 ·rw [List.getElem?_eq_getElem hk] at hp
  exact .inr ⟨k,hk,e,by simpa using hp⟩
def itemR (r:RuleD) (n:Int) (i:Nat):Int:=
 if r.kind=5 then kid r 1
 else if r.kind=6 then (if i < r.kids.length then kid r i else -1)
 else if r.kind=7 then (if tagAt r n < 0 then -1 else kid r ((tagAt r n).toNat+1))
 else if r.kind=8∨r.kind=9 then kid r 0
 else -1
def ownB (D:List RuleD) (r:RuleD) (n:Int) (nb ni:Nat):Bool:=
 if r.kind=1 then inB n 0 (pow8 r.size - 1) && (decide (nb=0) && decide (ni=0))
 else if r.kind=2 then decide (n=0) && (decide (nb=0) && decide (ni=0))
 else if r.kind=3 then decide (n=0) && (decide ((nb:Int)=r.size) && decide (ni=0))
 else if r.kind=4 then decide (n=0) && (decide ((nb:Int)≤min 400 (limitOf D (kid r 0))) && decide (ni=0))
 else if r.kind=10 then decide (n=0) && (decide (nb≤400) && decide (ni=0))
 else if r.kind=5 then decide (n=0) && (decide (nb=0) && decide ((ni:Int)≤min 40 (limitOf D (kid r 0))))
 else if r.kind=6 then decide (n=0) && (decide (nb=0) && decide (ni=r.kids.length))
 else if r.kind=7 then decide (nb=0) && (decide (ni=1) && decide (0≤itemR r n 0))
 else if r.kind=8 then decide (n=0) && (decide (nb=0) && decide (ni≤1))
 else decide (n=0) && (decide (nb=0) && decide (ni=1))
mutual
def validV (D:List RuleD):Int→Val→Bool
 |k, .mk n b l=> (match ruleAt D k with|none=> false|some r=> ownB D r n b.length l.length && validVs D r n 0 l)
def validVs (D:List RuleD) (r:RuleD) (n:Int):Nat→List Val→Bool
 | _, []=> true
 |i,x::l=> validV D (itemR r n i) x && validVs D r n (i+1) l
end
theorem validV_mk (D:List RuleD) (k:Int) (x:Val):validV D k x=(match ruleAt D k with|none=> false|some r=> ownB D r x.n x.b.length x.items.length && validVs D r x.n 0 x.items):=by
 cases x;rw [validV];rfl
theorem validVs_nil (D:List RuleD) (r:RuleD) (n:Int) (i:Nat):validVs D r n i []=true:=by rw [validVs]
theorem validVs_cons (D:List RuleD) (r:RuleD) (n:Int) (i:Nat) (x:Val) (l:List Val):validVs D r n i (x::l)=(validV D (itemR r n i) x && validVs D r n (i+1) l):=by rw [validVs]
theorem validVs_iff (D:List RuleD) (r:RuleD) (n:Int):∀(l:List Val) (i:Nat),validVs D r n i l=true↔∀j (hj:j < l.length),validV D (itemR r n (i+j)) l[j]=true
 | [],i=> by rw [validVs_nil];simp
 |x::l,i=> by
  rw [validVs_cons,Bool.and_eq_true,validVs_iff D r n l (i+1)]
  constructor
  ·rintro ⟨h1,h2⟩ j hj
   cases j with
   |zero=> exact h1
   |succ j=> have:=h2 j (by simpa using hj);rw [show i+1+j=i+(j+1) by omega] at this;exact this
  ·intro h
   refine ⟨h 0 (by simp),fun j hj=> ?_⟩
   have:=h (j+1) (by simpa using hj)
   rw [show i+1+j=i+(j+1) by omega]
   exact this
theorem validVs_all {D:List RuleD} {r:RuleD} {n:Int} {l:List Val} (h:∀j (hj:j < l.length),validV D (itemR r n j) l[j]=true):validVs D r n 0 l=true:=
 (validVs_iff D r n l 0).2 fun j hj=> by rw [Nat.zero_add];exact h j hj
theorem validVs_not {D:List RuleD} {r:RuleD} {n:Int} {l:List Val} {j:Nat} (hj:j < l.length) (h:validV D (itemR r n j) l[j]=false):validVs D r n 0 l=false:=by
 cases e:validVs D r n 0 l
 ·rfl
 ·have:=(validVs_iff D r n l 0).1 e j hj
  rw [Nat.zero_add,h] at this
  cases this
theorem validVs_at {D:List RuleD} {r:RuleD} {n:Int} {l:List Val} (h:validVs D r n 0 l=true) {j:Nat} (hj:j < l.length):validV D (itemR r n j) l[j]=true:=by
 have:=(validVs_iff D r n l 0).1 h j hj
 rwa [Nat.zero_add] at this
def itemAt (D:List RuleD) (k n:Int) (i:Nat):Int:=match ruleAt D k with|none=> -1|some r=> itemR r n i
def walkV (D:List RuleD):Int→Val→List ByteArray→Option (Int × Val)
 |k,x, []=> some (k,x)
 |k,x,s::t=> match followOf D k x.items.length s with
  | .ofNat j=> (match x.items[j]? with|none=> none|some y=> walkV D (itemAt D k x.n j) y t)
  | .negSucc _=> none
theorem walkV_nil (D:List RuleD) (k:Int) (x:Val):walkV D k x []=some (k,x):=by rw [walkV]
theorem walkV_no {D:List RuleD} {k:Int} {x:Val} {s:ByteArray} {t:List ByteArray} (h:followOf D k x.items.length s < 0):walkV D k x (s::t)=none:=by
 rw [walkV]
 split
 ·rename_i j hj;rw [hj] at h;simp at h;omega
 ·rfl
theorem walkV_at {D:List RuleD} {k:Int} {x:Val} {s:ByteArray} {t:List ByteArray} {j:Nat} (h:followOf D k x.items.length s=j) (hj:j < x.items.length):walkV D k x (s::t)=walkV D (itemAt D k x.n j) x.items[j] t:=by
 rw [walkV,h]
 show (match x.items[j]? with|none=> none|some y=> walkV D (itemAt D k x.n j) y t)=_
 rw [List.getElem?_eq_getElem hj]
def putV (D:List RuleD) (p:Val):Int→Val→List ByteArray→Val
 | _,_, []=> p
 |k,x,s::t=> .mk x.n x.b (x.items.set (followOf D k x.items.length s).toNat (match x.items[(followOf D k x.items.length s).toNat]? with|none=> p|some y=> putV D p (itemAt D k x.n (followOf D k x.items.length s).toNat) y t))
theorem putV_at {D:List RuleD} {p:Val} {k:Int} {x:Val} {s:ByteArray} {t:List ByteArray} {j:Nat} (h:followOf D k x.items.length s=j) (hj:j < x.items.length):
  putV D p k x (s::t)= .mk x.n x.b (x.items.set j (putV D p (itemAt D k x.n j) x.items[j] t)):=by
 rw [putV,h,Int.toNat_natCast,List.getElem?_eq_getElem hj]
theorem validV_item {D:List RuleD} {k:Int} {x:Val} (h:validV D k x=true) {j:Nat} (hj:j < x.items.length):validV D (itemAt D k x.n j) x.items[j]=true:=by
 rw [validV_mk] at h
 unfold itemAt
 cases hr:ruleAt D k with
 |none=> rw [hr] at h;cases h
 |some r=>
  rw [hr] at h
  simp only [Bool.and_eq_true] at h
  exact validVs_at h.2 hj
theorem validD_at {D:List RuleD} (h:validD D=true) {k:Nat} (hk:k < D.length):ruleOk D k D[k]=true:=by
 unfold validD at h
 rw [Bool.and_eq_true] at h
 have:=(allTo_iff _ _).1 h.1 k hk
 rwa [validR_at D k hk] at this
theorem ruleOk_kids {D:List RuleD} {i:Nat} {r:RuleD} (h:ruleOk D i r=true) {j:Nat} (hj:j < r.kids.length):∃q:Nat,r.kids[j]=q∧q < i:=by
 unfold ruleOk at h
 rw [Bool.and_eq_true,Bool.and_eq_true] at h
 have:=(allTo_iff _ _).1 h.2.1 j hj
 rw [kidAt_eq _ _ _ hj] at this
 have:=inB_iff.1 this
 exact ⟨r.kids[j].toNat,by omega,by omega⟩
theorem ruleOk_kind {D:List RuleD} {i:Nat} {r:RuleD} (h:ruleOk D i r=true):kindR D r=true:=by
 unfold ruleOk at h
 simp only [Bool.and_eq_true] at h
 exact h.2.2.2.1
end Go.Proofs.YteldgdelmaeokaaDoor
namespace Go.Proofs.YteldgdelmaeokaaDoor
open Go.RowKit
def VM.sub:VM→List Nat→Option VM
 |x, []=> some x
 |x,j::t=> match x.items[j]? with|none=> none|some y=> VM.sub y t
def VM.put (p:VM):VM→List Nat→VM
 | _, []=> p
 |x,j::t=> .mk x.n x.b x.vb x.vi (x.items.set j (match x.items[j]? with|none=> p|some y=> VM.put p y t))
def VM.adr:VM→Nat→Nat→List Nat→Nat × Nat
 | _,g,o, []=> (g,o)
 |x,g,o,j::t=> match x.items[j]?,x.vi.ownBlock with|some y,some h=> VM.adr y h (j*3) t| _,_=> (g,o)
theorem VM.sub_nil (x:VM):x.sub []=some x:=rfl
theorem VM.sub_at {x:VM} {j:Nat} (hj:j < x.items.length) (t:List Nat):x.sub (j::t)=x.items[j].sub t:=by rw [VM.sub,List.getElem?_eq_getElem hj]
theorem VM.sub_lt {x y:VM} {j:Nat} {t:List Nat} (h:x.sub (j::t)=some y):∃hj:j < x.items.length,x.items[j].sub t=some y:=by
 rw [VM.sub] at h
 cases e:x.items[j]? with
 |none=> rw [e] at h;cases h
 |some z=> rw [e] at h;obtain ⟨hj,rfl⟩:=List.getElem?_eq_some_iff.1 e;exact ⟨hj,h⟩
theorem VM.put_nil (p x:VM):VM.put p x []=p:=rfl
theorem VM.put_at {x:VM} {j:Nat} (hj:j < x.items.length) (p:VM) (t:List Nat):VM.put p x (j::t)= .mk x.n x.b x.vb x.vi (x.items.set j (VM.put p x.items[j] t)):=by rw [VM.put,List.getElem?_eq_getElem hj]
theorem VM.adr_nil (x:VM) (g o:Nat):x.adr g o []=(g,o):=rfl
theorem VM.adr_at {x:VM} {j h:Nat} (hj:j < x.items.length) (hh:x.vi.ownBlock=some h) (g o:Nat) (t:List Nat):x.adr g o (j::t)=x.items[j].adr h (j*3) t:=by rw [VM.adr,List.getElem?_eq_getElem hj,hh]
theorem VM.sub_append:∀{t u:List Nat} {x y:VM},x.sub t=some y→x.sub (t++u)=y.sub u
 | [],u,x,y,h=> by rw [VM.sub_nil] at h;cases h;rfl
 |j::t,u,x,y,h=> by
  obtain ⟨hj,h⟩:=VM.sub_lt h
  rw [List.cons_append,VM.sub_at hj]
  exact VM.sub_append h
theorem VM.put_append (p:VM):∀{t u:List Nat} {x y:VM},x.sub t=some y→VM.put p x (t++u)=VM.put (VM.put p y u) x t
 | [],u,x,y,h=> by rw [VM.sub_nil] at h;cases h;rfl
 |j::t,u,x,y,h=> by
  obtain ⟨hj,h⟩:=VM.sub_lt h
  rw [List.cons_append,VM.put_at hj,VM.put_at hj,VM.put_append p h]
theorem VM.adr_append:∀{t:List Nat} {x y:VM} {j h:Nat} {g o:Nat},x.sub t=some y→j < y.items.length→y.vi.ownBlock=some h→(∀z:VM,∀s j' t',t=s++j'::t'→x.sub s=some z→z.vi.ownBlock≠none)→x.adr g o (t++ [j])=(h,j*3)
 | [],x,y,j,h,g,o,hs,hj,hh,_=> by
  rw [VM.sub_nil] at hs;cases hs
  rw [List.nil_append,VM.adr_at hj hh,VM.adr_nil]
 |i::t,x,y,j,h,g,o,hs,hj,hh,hz=> by
  obtain ⟨hi,hs⟩:=VM.sub_lt hs
  have h0:=hz x [] i t rfl rfl
  cases e:x.vi.ownBlock with
  |none=> exact absurd e h0
  |some q=>
   rw [List.cons_append,VM.adr_at hi e]
   exact VM.adr_append hs hj hh fun z s j' t' e2 e3=> hz z (i::s) j' t' (by rw [e2];rfl) (by rw [VM.sub_at hi];exact e3)
theorem VM.bkss_mid {l:List VM} {j:Nat} (hj:j < l.length) (z:VM):VM.bkss (l.set j z)=VM.bkss (l.take j)++(z.bks++VM.bkss (l.drop (j+1))):=by
 rw [List.set_eq_take_append_cons_drop,if_pos hj,VM.bkss_append,VM.bkss_cons]
theorem VM.bkss_at {l:List VM} {j:Nat} (hj:j < l.length):VM.bkss l=VM.bkss (l.take j)++(l[j].bks++VM.bkss (l.drop (j+1))):=by
 have:=VM.bkss_mid hj l[j]
 rwa [List.set_getElem_self] at this
theorem perm_mid {α:Type} (A B C D:List α) {y r:List α} (h:B.Perm (y++r)):(D++(A++(B++C))).Perm (y++(D++(A++(r++C)))):=by
 have h1:(D++(A++(B++C))).Perm (D++(A++((y++r)++C))):=List.Perm.append_left _ (List.Perm.append_left _ (List.Perm.append_right _ h))
 refine h1.trans ?_
 rw [List.append_assoc y r C,←List.append_assoc A y,←List.append_assoc D (A++y)]
 refine (List.Perm.append_right _ ?_).trans (List.Perm.of_eq (by simp [List.append_assoc]:(y++(D++A))++(r++C)=_))
 rw [←List.append_assoc]
 exact List.perm_append_comm
theorem VM.bks_put:∀{t:List Nat} {x y:VM},x.sub t=some y→∃rest,x.bks.Perm (y.bks++rest)∧∀p:VM,(VM.put p x t).bks.Perm (p.bks++rest)
 | [],x,y,h=> by rw [VM.sub_nil] at h;cases h;exact ⟨[],by rw [List.append_nil],fun p=> by rw [VM.put_nil,List.append_nil]⟩
 |j::t,x,y,h=> by
  obtain ⟨hj,h⟩:=VM.sub_lt h
  obtain ⟨rest,h1,h2⟩:=VM.bks_put h
  obtain ⟨n,b,vb,vi,l⟩:=x
  simp only [VM.items_mk] at hj h1 h2
  refine ⟨(vb.ownBlock.toList++vi.ownBlock.toList)++(VM.bkss (l.take j)++(rest++VM.bkss (l.drop (j+1)))),?_,fun p=> ?_⟩
  ·rw [VM.bks_mk,←List.append_assoc,VM.bkss_at hj]
   exact perm_mid _ _ _ _ h1
  ·rw [VM.put_at hj]
   simp only [VM.n_mk,VM.b_mk,VM.vb_mk,VM.vi_mk,VM.items_mk]
   rw [VM.bks_mk,←List.append_assoc,VM.bkss_mid hj]
   exact perm_mid _ _ _ _ (h2 p)
theorem VM.bks_sub {t:List Nat} {x y:VM} (h:x.sub t=some y) {g:Nat} (hg:g∈y.bks):g∈x.bks:=by
 obtain ⟨rest,h1,_⟩:=VM.bks_put h
 exact h1.mem_iff.2 (List.mem_append_left _ hg)
structure BoxV (w:World) (lo g o:Nat) (x:VM):Prop where
 cells:∀i u,(vmCells x)[i]?=some u→w.cell? ⟨g,o+i,none⟩=some u
 own:x.own lo w
 nd:x.bks.Nodup
 out:g ∉ x.bks
theorem own_block_some {w:World} {base n:Nat} {E:TypeId} {size:Nat} {v:Value} {xs:List Value} (h:w.ownsRow base E size v n xs) (hn:0 < n):∃g c,v= .slice (some ⟨g,0,none⟩) n c∧v.ownBlock=some g:=by
 rcases h.2 with ⟨rfl,rfl⟩|⟨g,cap,cur,rfl,_⟩
 ·have:=h.1
  omega
 ·exact ⟨g,cap,rfl,rfl⟩
theorem putCells_heap {g k:Nat} (hg:k≠g) (us:List Value):∀(w:World) (o:Nat),(putCells w g o us).heap[k]?=w.heap[k]?:=by
 induction us with
 |nil=> intro w o;rfl
 |cons u us ih=> intro w o;rw [putCells,ih];exact Below.heap_setCell _ _ _ _ hg
theorem putCells_cell {g k:Nat} (hg:k≠g) (us:List Value) (w:World) (o i:Nat):(putCells w g o us).cell? ⟨k,i,none⟩=w.cell? ⟨k,i,none⟩:=
 World.cell?_of_block (a:=⟨k,i,none⟩) (putCells_heap hg us w o)
theorem putCells_low (g:Nat) (us:List Value):∀(w:World) (o i:Nat),i < o→(putCells w g o us).cell? ⟨g,i,none⟩=w.cell? ⟨g,i,none⟩:=by
 induction us with
 |nil=> intro w o i _;rfl
 |cons u us ih=>
  intro w o i hi
  rw [putCells,ih _ (o+1) i (by omega)]
  exact World.cell?_setCell_other _ _ _ _ (by intro e;simp only [Addr.mk.injEq] at e;omega)
theorem putCells_at (g:Nat) (us:List Value):∀(w:World) (o:Nat),(∀i,i < us.length→∃u,w.cell? ⟨g,o+i,none⟩=some u)→∀i u,us[i]?=some u→(putCells w g o us).cell? ⟨g,o+i,none⟩=some u:=by
 induction us with
 |nil=> intro w o _ i u h;simp at h
 |cons v us ih=>
  intro w o hc i u h
  rw [putCells]
  cases i with
  |zero=>
   rw [putCells_low _ _ _ _ _ (by omega)]
   obtain ⟨x,hx⟩:=hc 0 (by simp)
   rw [Nat.add_zero] at hx ⊢
   simp only [List.getElem?_cons_zero,Option.some.injEq] at h
   subst h
   exact World.cell?_setCell_same' _ _ _ (by rw [hx];rfl)
  |succ i=>
   have:=ih (w.setCell ⟨g,o,none⟩ v) (o+1) (fun i hi=> by
    obtain ⟨x,hx⟩:=hc (i+1) (by simpa using hi)
    exact ⟨x,by rw [World.cell?_setCell_other _ _ _ _ (by intro e;simp only [Addr.mk.injEq] at e;omega),show o+1+i=o+(i+1) by omega];exact hx⟩) i u (by simpa using h)
   rw [show o+1+i=o+(i+1) by omega] at this
   exact this
theorem VM.own_put {lo:Nat} {w:World} {a b:Nat} {us:List Value} {x:VM} (h:x.own lo w) (ha:a ∉ x.bks):x.own lo (putCells w a b us):=
 h.keep fun g hg=> putCells_heap (fun e=> ha (by rw [←e];exact hg)) us w b
theorem VM.flat_set {l:List VM} {j:Nat} (hj:j < l.length) (z:VM):(l.set j z).flatMap vmCells=(l.take j).flatMap vmCells++vmCells z++(l.drop (j+1)).flatMap vmCells:=by
 rw [List.set_eq_take_append_cons_drop,if_pos hj,List.flatMap_append,List.flatMap_cons,List.append_assoc]
theorem VM.flat_same {l:List VM} {j:Nat} (hj:j < l.length) (z:VM) (hz:vmCells z=vmCells l[j]):(l.set j z).flatMap vmCells=l.flatMap vmCells:=by
 have h:=VM.flat_set hj l[j]
 rw [List.set_getElem_self] at h
 rw [VM.flat_set hj,hz,←h]
theorem VM.adr_in {lo:Nat} {w:World}:∀{t:List Nat} {x y:VM} {g o:Nat},x.sub t=some y→x.own lo w→(x.adr g o t).1=g∨(x.adr g o t).1∈x.bks
 | [],x,y,g,o,_,_=> .inl rfl
 |j::t,x,y,g,o,h,hx=> by
  obtain ⟨hj,h⟩:=VM.sub_lt h
  obtain ⟨q,c,ev,hq⟩:=own_block_some hx.row (by omega)
  rw [VM.adr_at hj hq]
  have hm:q∈x.bks:=by
   have hd:=VM.bks_mk x.n x.b x.vb x.vi x.items
   have he:(VM.mk x.n x.b x.vb x.vi x.items)=x:=by cases x;rfl
   rw [he] at hd
   rw [hd,hq];simp
  rcases VM.adr_in (g:=q) (o:=j*3) h (hx.its _ (List.getElem_mem hj)) with e|e
  ·rw [e];exact .inr hm
  ·exact .inr (VM.bks_sub (x:=x) (t:= [j]) (y:=x.items[j]) (by rw [VM.sub_at hj,VM.sub_nil]) e)
structure NewV (w:World) (lo:Nat) (x y p:VM):Prop where
 own:p.own lo w
 nd:p.bks.Nodup
 far:∀k∈p.bks,k ∉ x.bks∨k∈y.bks
theorem BoxV.put {w:World} {lo:Nat} {y p:VM}:∀{t:List Nat} {x:VM} {g o:Nat},BoxV w lo g o x→x.sub t=some y→NewV w lo x y p→g ∉ p.bks→
  BoxV (putCells w (x.adr g o t).1 (x.adr g o t).2 (vmCells p)) lo g o (VM.put p x t)∧((x.adr g o t).1=g∨(x.adr g o t).1∈x.bks)∧
   (∀i u,(vmCells y)[i]?=some u→w.cell? ⟨(x.adr g o t).1,(x.adr g o t).2+i,none⟩=some u)
 | [],x,g,o,h,hs,hp,hg=> by
  rw [VM.sub_nil] at hs
  cases hs
  rw [VM.adr_nil,VM.put_nil]
  refine ⟨⟨fun i u hu=> putCells_at g _ w o (fun i hi=> ?_) i u hu,hp.own.keep fun k hk=> putCells_heap (fun e=> hg (by have e:k=g:=e;rw [←e];exact hk)) _ w o,hp.nd,hg⟩, .inl rfl,h.cells⟩
  rw [vmCells_length] at hi
  exact ⟨_,h.cells i _ (List.getElem?_eq_getElem (by rw [vmCells_length];exact hi))⟩
 |j::t,x,g,o,h,hs,hp,hg=> by
  obtain ⟨hj,hs⟩:=VM.sub_lt hs
  obtain ⟨rest,hr1,hr2⟩:=VM.bks_put (x:=x) (t:=j::t) (by rw [VM.sub_at hj];exact hs)
  obtain ⟨n,b,vb,vi,l⟩:=x
  simp only [VM.items_mk] at hj hs
  have hown:=h.own
  have hnd:=h.nd
  have hout:=h.out
  have ob:=hown.bytes
  have oi:=hown.row
  have ox:=hown.its
  simp only [VM.vb_mk,VM.b_mk,VM.vi_mk,VM.items_mk] at ob oi ox
  obtain ⟨q,c,ev,hq⟩:=own_block_some oi (by omega)
  subst ev
  rw [VM.adr_at (h:=q) (by exact hj) rfl]
  simp only [VM.items_mk]
  have hbk:(VM.mk n b vb (.slice (some ⟨q,0,none⟩) l.length c) l).bks=vb.ownBlock.toList++([q]++VM.bkss l):=by rw [VM.bks_mk];rfl
  rw [hbk] at hnd hout
  rw [VM.bkss_at hj] at hnd hout
  simp only [List.nodup_append,List.mem_append,List.mem_singleton,List.nodup_cons,List.not_mem_nil,List.nodup_nil] at hnd
  simp only [List.mem_append,List.mem_singleton,not_or] at hout
  have hin:∀k,k∈l[j].bks→k∈(VM.mk n b vb (.slice (some ⟨q,0,none⟩) l.length c) l).bks:=fun k hk=> by
   rw [hbk,VM.bkss_at hj];simp only [List.mem_append];exact .inr (.inr (.inr (.inl hk)))
  have hqx:q∈(VM.mk n b vb (.slice (some ⟨q,0,none⟩) l.length c) l).bks:=by rw [hbk];simp
  have hqj:q ∉ l[j].bks:=fun hk=> (hnd.2.1.2.2 q rfl q (.inr (.inl hk))) rfl
  have hvq:vb.ownBlock≠some q:=fun e=> hnd.2.2 q (by rw [e];simp) q (.inl rfl) rfl
  have hvj:∀k,vb.ownBlock=some k→k ∉ l[j].bks:=fun k e hk=> hnd.2.2 k (by rw [e];simp) k (.inr (.inr (.inl hk))) rfl
  have hbox:BoxV w lo q (j*3) l[j]:=⟨fun i u hu=> by
    have hi3:i < 3:=by have:=(List.getElem?_eq_some_iff.1 hu).1;rwa [vmCells_length] at this
    have hc:=oi.cellAt (j*3+i) (by have:=Nat.mul_le_mul_right 3 (show j+1≤l.length by omega);omega)
    rw [hc,flatMap_at vmCells 3 vmCells_length l j i hj hi3]
    exact hu,ox _ (List.getElem_mem hj),hnd.2.1.2.1.2.1.1,hqj⟩
  have hpq:q ∉ p.bks:=fun hk=> by
   rcases hp.far q hk with h1|h1
   ·exact h1 hqx
   ·exact hqj (VM.bks_sub hs h1)
  obtain ⟨i1,i2,i3⟩:=BoxV.put hbox hs (p:=p) ⟨hp.own,hp.nd,fun k hk=> (hp.far k hk).imp (fun h1 h2=> h1 (hin k h2)) id⟩ hpq
  obtain ⟨a,ha⟩:∃a,a=(l[j].adr q (j*3) t).1:=⟨_,rfl⟩
  obtain ⟨o',ho'⟩:∃o',o'=(l[j].adr q (j*3) t).2:=⟨_,rfl⟩
  rw [←ha,←ho'] at i1 i3 ⊢
  rw [←ha] at i2
  have hax:a∈(VM.mk n b vb (.slice (some ⟨q,0,none⟩) l.length c) l).bks:=by
   rcases i2 with e|e
   ·rw [e];exact hqx
   ·exact hin a e
  have hag:g≠a:=fun e=> h.out (e ▸ hax)
  have hav:∀k,vb.ownBlock=some k→k≠a:=fun k e e2=> by
   subst e2
   rcases i2 with e3|e3
   ·exact hvq (e3 ▸ e)
   ·exact hvj k e e3
  refine ⟨⟨fun i u hu=> ?_,?_,?_,?_⟩, .inr hax,i3⟩
  ·rw [putCells_cell hag]
   refine h.cells i u ?_
   rw [VM.put_at (by exact hj)] at hu
   exact hu
  ·rw [VM.put_at (by exact hj)]
   simp only [VM.n_mk,VM.b_mk,VM.vb_mk,VM.vi_mk,VM.items_mk]
   refine .mk (own_row_keep ob fun k e=> putCells_heap (hav k e) _ _ _) ?_ fun z hz=> ?_
   ·rw [List.length_set]
    cases t with
    |nil=>
     rw [VM.sub_nil] at hs
     cases hs
     rw [VM.adr_nil] at ha ho'
     dsimp only at ha ho'
     subst ha ho'
     rw [VM.put_nil,VM.flat_set hj]
     have hl:((l.take j).flatMap vmCells).length=j*3:=by rw [flatMap_len vmCells 3 vmCells_length,List.length_take,Nat.min_eq_left (by omega)]
     have hs:=VM.flat_set hj l[j]
     rw [List.set_getElem_self,List.append_assoc] at hs
     rw [hs] at oi
     have:=own_putCells (vmCells p) w ((l.take j).flatMap vmCells) (vmCells l[j]++(l.drop (j+1)).flatMap vmCells) (by simp [vmCells]) oi
     rw [hl] at this
     rw [show (vmCells l[j]++(l.drop (j+1)).flatMap vmCells).drop (vmCells p).length=(l.drop (j+1)).flatMap vmCells from by
      rw [vmCells_length,←vmCells_length l[j],List.drop_left]] at this
     exact this
    |cons i t=>
     obtain ⟨hi,hs'⟩:=VM.sub_lt hs
     have haq:q≠a:=by
      rcases i2 with e|e
      ·have oj:=(ox _ (List.getElem_mem hj)).row
       obtain ⟨q',c',ev',hq'⟩:=own_block_some oj (by omega)
       have hm:q'∈l[j].bks:=by
        have hd:=VM.bks_mk l[j].n l[j].b l[j].vb l[j].vi l[j].items
        have he:(VM.mk l[j].n l[j].b l[j].vb l[j].vi l[j].items)=l[j]:=by cases l[j];rfl
        rw [he] at hd
        rw [hd,hq'];simp
       intro _
       rw [VM.adr_at hi hq'] at ha
       have hsub:BoxV w lo q' (i*3) l[j].items[i]∨True:= .inr trivial
       rcases VM.adr_in (x:=l[j].items[i]) (y:=y) (g:=q') (o:=i*3) (t:=t) hs' ((ox _ (List.getElem_mem hj)).its _ (List.getElem_mem hi)) with e4|e4
       ·rw [←ha,e] at e4
        exact hqj (e4 ▸ hm)
       ·rw [←ha,e] at e4
        refine hqj ?_
        have:=VM.bks_sub (x:=l[j]) (t:= [i]) (y:=l[j].items[i]) (by rw [VM.sub_at hi,VM.sub_nil]) e4
        exact this
      ·exact fun e'=> hqj (e' ▸ e)
     rw [VM.flat_same hj _ (by rw [VM.put_at hi];rfl)]
     exact own_row_keep oi fun k e=> putCells_heap (by
      have:q=k:=by simpa [Value.ownBlock] using e
      exact this ▸ haq) _ _ _
   ·obtain ⟨i,hi,rfl⟩:=List.getElem_of_mem hz
    rw [List.length_set] at hi
    rw [List.getElem_set]
    split
    ·exact i1.own
    ·rename_i hne
     refine VM.own_put (ox _ (List.getElem_mem hi)) fun hk=> ?_
     have hmem:a∈VM.bkss (l.take j)∨a∈VM.bkss (l.drop (j+1)):=by
      by_cases hij:i < j
      ·exact .inl (VM.mem_bkss (x:=l[i]) (List.mem_take_iff_getElem.2 ⟨i,by omega,rfl⟩) hk)
      ·refine .inr (VM.mem_bkss (x:=l[i]) ?_ hk)
       exact List.mem_drop_iff_getElem.2 ⟨i - (j+1),by omega,by simp [show j+1+(i - (j+1))=i by omega]⟩
     rcases i2 with e|e
     ·rcases hmem with h1|h1
      ·exact hnd.2.1.2.2 q rfl q (.inl (e ▸ h1)) rfl
      ·exact hnd.2.1.2.2 q rfl q (.inr (.inr (e ▸ h1))) rfl
     ·rcases hmem with h1|h1
      ·exact hnd.2.1.2.1.2.2 a h1 a (.inl e) rfl
      ·exact hnd.2.1.2.1.2.1.2.2 a e a h1 rfl
  ·rw [(hr2 p).nodup_iff,List.nodup_append]
   have hN:=(hr1.nodup_iff).1 h.nd
   rw [List.nodup_append] at hN
   refine ⟨hp.nd,hN.2.1,fun k hk k' hk' e=> ?_⟩
   subst e
   rcases hp.far k hk with h1|h1
   ·exact h1 (hr1.mem_iff.2 (List.mem_append_right _ hk'))
   ·exact hN.2.2 k h1 k hk' rfl
  ·intro hk
   rcases List.mem_append.1 ((hr2 p).mem_iff.1 hk) with h1|h1
   ·exact hg h1
   ·exact h.out (hr1.mem_iff.2 (List.mem_append_right _ h1))
end Go.Proofs.YteldgdelmaeokaaDoor
namespace Go.Proofs.YteldgdelmaeokaaDoor
open Go.RowKit
end Go.Proofs.YteldgdelmaeokaaDoor
namespace Go.Proofs.YteldgdelmaeokaaDoor
open Go.RowKit
def OwVL (X:List Val) (lo hi:Nat) (w:World) (v:Value):Prop:=
 ∃(l:List VM) (m:Nat),l.map VM.d=X∧Row lo m 29 3 l.length (l.flatMap vmCells) w v∧lo≤m∧m≤hi∧OwVs l m hi w
theorem OwVL.keep {X:List Val} {lo hi lo' hi':Nat} {w w':World} {v:Value} (h:OwVL X lo hi w v) (ho:Out lo' hi' w w') (hd:hi≤lo'∨hi'≤lo):OwVL X lo hi w' v:=by
 obtain ⟨l,m,h1,h2,h3,h4,h5⟩:=h
 exact ⟨l,m,h1,h2.keep ho (by omega),h3,h4,h5.keep ho (by omega)⟩
theorem OwVL.wide {X:List Val} {lo hi lo' hi':Nat} {w:World} {v:Value} (h:OwVL X lo hi w v) (h1:lo'≤lo) (h2:hi≤hi'):OwVL X lo' hi' w v:=by
 obtain ⟨l,m,a,b,c,d,e⟩:=h
 exact ⟨l,m,a,Row.wide b h1 (Nat.le_refl _),by omega,by omega,e.wide (Nat.le_refl _) h2⟩
theorem OwVL.sl {X:List Val} {lo hi:Nat} {w:World} {v:Value} (h:OwVL X lo hi w v):∃l:List VM,l.map VM.d=X∧SlV w w.heap.size v l:=by
 obtain ⟨l,m,h1,h2,h3,h4,h5⟩:=h
 exact ⟨l,h1,h2.sl,fun x hx=> (h5.own x hx).rd⟩
theorem OwVL.slice {X:List Val} {lo hi:Nat} {w:World} {v:Value} (h:OwVL X lo hi w v):∃A c,v= .slice A X.length c:=by
 obtain ⟨l,m,h1,h2,h3,h4,h5⟩:=h
 obtain ⟨A,c,e⟩:=row_slice h2
 exact ⟨A,c,by rw [e,←h1,List.length_map]⟩
theorem OwV.fin {n:Int} {b:List UInt8} {X:List Val} {vb vi:Value} {lo l1 m1 m2 hi:Nat} {w:World} (h1:OwB b l1 m1 w vb) (h2:OwVL X m1 m2 w vi) (h3:lo≤l1) (h4:m2≤hi) (h5:l1≤m1):
  OwV (.mk n b X) lo hi w (.agg #[.int .i64 n,vb,vi]):=by
 obtain ⟨l,m,a,c,d,e,f⟩:=h2
 exact ⟨.mk n b vb vi l,by rw [VM.d_mk,a],rfl,OwV1.of (Row.wide h1 h3 (Nat.le_refl _)) c f (by omega) d e h4⟩
theorem Tryd.info_value:(Tryd.prog.info? 29).map (fun i=> (i.zero,i.size,i.bytes))=some (some (.agg #[.int .i64 0, .slice none 0 0, .slice none 0 0]),3,56):=by kernel_rfl
end Go.Proofs.YteldgdelmaeokaaDoor
namespace Go.Proofs.YteldgdelmaeokaaDoor
open Go.RowKit
structure OutB (bs:List Nat) (w w':World):Prop where
 os:w'.os=w.os
 tape:w'.tape=w.tape
 output:w'.output=w.output
 size:w.heap.size≤w'.heap.size
 block:∀k,k < w.heap.size→k ∉ bs→w'.heap[k]?=w.heap[k]?
theorem OutB.refl (bs:List Nat) (w:World):OutB bs w w:=⟨rfl,rfl,rfl,Nat.le_refl _,fun _ _ _=> rfl⟩
theorem OutB.trans {bs:List Nat} {a b c:World} (h:OutB bs a b) (k:OutB bs b c):OutB bs a c:=
 ⟨k.os.trans h.os,k.tape.trans h.tape,k.output.trans h.output,Nat.le_trans h.size k.size,fun i hi ho=> (k.block i (Nat.lt_of_lt_of_le hi h.size) ho).trans (h.block i hi ho)⟩
theorem OutB.mono {bs bs':List Nat} {a b:World} (h:OutB bs a b) (hs:∀g∈bs,g∈bs'):OutB bs' a b:=⟨h.os,h.tape,h.output,h.size,fun k hk ho=> h.block k hk fun e=> ho (hs k e)⟩
theorem OutB.of_below {bs:List Nat} {w w':World} (h:Below w.heap.size w w'):OutB bs w w':=⟨h.os,h.tape,h.output,h.size,fun k hk _=> h.block k hk⟩
theorem OutB.of_grown {bs:List Nat} {w w':World} {row:Option Nat} (h:w.grownBy w' row) (hr:∀k,row=some k→k∈bs):OutB bs w w':=
 ⟨h.os,h.tape,h.output,h.size,fun k hk ho=> h.block k hk fun e=> ho (hr k e.symm)⟩
theorem OutB.out {bs:List Nat} {lo hi:Nat} {w w':World} (h:OutB bs w w') (hb:∀g∈bs,lo≤g∧g < hi):Out lo hi w w':=
 ⟨h.os,h.tape,h.output,h.size,fun k hk ho=> h.block k hk fun e=> by have:=hb k e;omega⟩
theorem VM.own.keepB {lo:Nat} {bs:List Nat} {w w':World} {x:VM} (h:x.own lo w) (ho:OutB bs w w') (hd:∀g∈x.bks,g ∉ bs):x.own lo w':=h.keep fun g hg=> ho.block g (h.lt g hg).2 (hd g hg)
theorem row_keepB {lo:Nat} {bs:List Nat} {E:TypeId} {size n:Nat} {v:Value} {xs:List Value} {w w':World} (h:w.ownsRow lo E size v n xs) (ho:OutB bs w w') (hd:∀g,v.ownBlock=some g→g ∉ bs):w'.ownsRow lo E size v n xs:=
 own_row_keep h fun g hg=> ho.block g (h.lt g hg).2 (hd g hg)
theorem VM.size_d (x:VM):x.d.size=x.b.length+Val.sizes (x.items.map VM.d):=by cases x;rw [VM.d_mk,Val.size_mk];rfl
end Go.Proofs.YteldgdelmaeokaaDoor
namespace Go.Proofs.YteldgdelmaeokaaDoor
open Go.RowKit
theorem validV_rng {D:List RuleD} {i:Int} {x:Val} (h:validV D i x=true):∃k:Nat,i=k∧k < D.length:=by
 rw [validV_mk] at h
 by_cases h0:0≤i
 ·by_cases h1:i < D.length
  ·exact ⟨i.toNat,by omega,by omega⟩
  ·rw [ruleAt_none (.inr (by omega))] at h;cases h
 ·rw [ruleAt_none (.inl (by omega))] at h;cases h
theorem itemAt_at {D:List RuleD} {k:Nat} (hk:k < D.length) (n:Int) (i:Nat):itemAt D k n i=itemR D[k] n i:=by
 obtain ⟨q,hq,e,hat⟩:=ruleAt_some (D:=D) (i:=(k:Int)) (by omega) (by omega)
 have:q=k:=by omega
 subst this
 unfold itemAt
 rw [hat]
theorem VM.items_d (x:VM):x.d.items=x.items.map VM.d:=by cases x;rw [VM.d_mk];rfl
theorem VM.n_d (x:VM):x.d.n=x.n:=by cases x;rw [VM.d_mk];rfl
theorem VM.b_d (x:VM):x.d.b=x.b:=by cases x;rw [VM.d_mk];rfl
theorem VM.d_items_at {x:VM} {i:Nat} (hi:i < x.items.length):x.d.items[i]'(by rw [VM.items_d,List.length_map];exact hi)=x.items[i].d:=by
 simp only [VM.items_d,List.getElem_map]
theorem VM.size_item {x:VM} {i:Nat} (hi:i < x.items.length) {N:Nat} (h:x.d.size≤N):x.items[i].d.size≤N:=by
 have:=Val.size_le_of_mem (List.mem_map_of_mem (f:=VM.d) (List.getElem_mem hi))
 rw [VM.size_d] at h
 omega
theorem walk_step {D:List RuleD} {k:Nat} {y:VM} {s:ByteArray} {u:List ByteArray} {i:Nat} (hf:followOf D k y.items.length s=i) (hi:i < y.items.length):
  walkV D k y.d (s::u)=walkV D (itemAt D k y.n i) y.items[i].d u:=by
 have hl:y.d.items.length=y.items.length:=by rw [VM.items_d,List.length_map]
 rw [walkV_at (j:=i) (by rw [hl];exact hf) (by rw [hl];exact hi),VM.d_items_at hi,VM.n_d]
theorem walk_stop {D:List RuleD} {k:Nat} {y:VM} {s:ByteArray} {u:List ByteArray} (hf:followOf D k y.items.length s < 0):walkV D k y.d (s::u)=none:=by
 have hl:y.d.items.length=y.items.length:=by rw [VM.items_d,List.length_map]
 exact walkV_no (by rw [hl];exact hf)
structure RdI (D:List RuleD) (x:Val) (S:List ByteArray) (w:World) (B:Nat) (j:Nat) (y:VM) (k:Nat):Prop where
 rd:y.rd w B
 sz:y.d.size≤4194304
 val:validV D k y.d=true
 walk:walkV D (D.length - 1:Nat) x S=walkV D k y.d (S.drop j)
theorem RdI.rng {D:List RuleD} {x:Val} {S:List ByteArray} {w:World} {B j:Nat} {y:VM} {k:Nat} (h:RdI D x S w B j y k):k < D.length:=by
 obtain ⟨q,e,hq⟩:=validV_rng h.val
 omega
theorem RdI.items {D:List RuleD} {x:Val} {S:List ByteArray} {w:World} {B j:Nat} {y:VM} {k:Nat} (h:RdI D x S w B j y k):y.items.length≤4194304:=by
 have h1:=h.sz
 have h2:=Val.length_le (y.items.map VM.d)
 rw [List.length_map] at h2
 rw [VM.size_d] at h1
 omega
theorem RdI.next {D:List RuleD} {x:Val} {S:List ByteArray} {w:World} {B j:Nat} {y:VM} {k i:Nat} (h:RdI D x S w B j y k) (hj:j < S.length) (hf:followOf D k y.items.length S[j]=i) (hi:i < y.items.length):
  ∃k':Nat,itemR (D[k]'h.rng) y.n i=k'∧RdI D x S w B (j+1) y.items[i] k':=by
 have hv:=validV_item h.val (j:=i) (by rw [VM.items_d,List.length_map];exact hi)
 rw [VM.d_items_at hi,VM.n_d] at hv
 obtain ⟨k',e, -⟩:=validV_rng hv
 refine ⟨k',(itemAt_at h.rng _ _).symm.trans e,h.rd.its.2 _ (List.getElem_mem hi),VM.size_item hi h.sz,by rw [←e];exact hv,?_⟩
 rw [h.walk,List.drop_eq_getElem_cons hj,walk_step hf hi,e]
theorem RdI.stop {D:List RuleD} {x:Val} {S:List ByteArray} {w:World} {B j:Nat} {y:VM} {k:Nat} (h:RdI D x S w B j y k) (hj:j < S.length) (hf:followOf D k y.items.length S[j] < 0):
  walkV D (D.length - 1:Nat) x S=none:=by
 rw [h.walk,List.drop_eq_getElem_cons hj,walk_stop hf]
theorem RdI.done {D:List RuleD} {x:Val} {S:List ByteArray} {w:World} {B j:Nat} {y:VM} {k:Nat} (h:RdI D x S w B j y k) (hj:S.length≤j):
  walkV D (D.length - 1:Nat) x S=some (↑k,y.d):=by
 rw [h.walk,List.drop_eq_nil_of_le hj,walkV_nil]
structure PtI (D:List RuleD) (x:VM) (S:List ByteArray) (w:World) (lo g o:Nat) (j:Nat) (t:List Nat) (y:VM) (k g' o':Nat):Prop where
 sub:x.sub t=some y
 own:y.own lo w
 rdi:RdI D x.d S w w.heap.size j y k
 adr:x.adr g o t=(g',o')
 pre:∀z:VM,∀s j' t',t=s++j'::t'→x.sub s=some z→z.vi.ownBlock≠none
 c0:w.cell? ⟨g',o',none⟩=some (.int .i64 y.n)
 c1:w.cell? ⟨g',o'+1,none⟩=some y.vb
 c2:w.cell? ⟨g',o'+2,none⟩=some y.vi
 put:∀(P:Val) (z:VM),z.d=putV D P k y.d (S.drop j)→(VM.put z x t).d=putV D P (D.length - 1:Nat) x.d S
theorem VM.put_d (z x:VM) (j:Nat) (hj:j < x.items.length):(VM.put z x [j]).d= .mk x.d.n x.d.b (x.d.items.set j z.d):=by
 rw [VM.put_at hj,VM.put_nil,VM.d_mk,VM.n_d,VM.b_d,VM.items_d,List.map_set]
theorem PtI.next {D:List RuleD} {x:VM} {S:List ByteArray} {w:World} {lo g o j:Nat} {t:List Nat} {y:VM} {k g' o' i h:Nat} (p:PtI D x S w lo g o j t y k g' o') (hj:j < S.length) (hf:followOf D k y.items.length S[j]=i) (hi:i < y.items.length)
  (hh:y.vi.ownBlock=some h):∃k':Nat,itemR (D[k]'p.rdi.rng) y.n i=k'∧PtI D x S w lo g o (j+1) (t++ [i]) y.items[i] k' h (i*3):=by
 obtain ⟨k',e,r⟩:=p.rdi.next hj hf hi
 have hrow:=p.own.row
 obtain ⟨q,c,ev,hq⟩:=own_block_some hrow (by omega)
 have hqh:q=h:=by rw [hq] at hh;exact Option.some.inj hh
 subst hqh
 rw [ev] at hrow
 have hcell:∀u,u < 3→∀val,(vmCells y.items[i])[u]?=some val→w.cell? ⟨q,i*3+u,none⟩=some val:=fun u hu val hv=> by
  have hc:=hrow.cellAt (i*3+u) (by have:=Nat.mul_le_mul_right 3 (show i+1≤y.items.length by omega);omega)
  rw [hc,flatMap_at vmCells 3 vmCells_length y.items i u hi hu]
  exact hv
 refine ⟨k',e,?_,p.own.its _ (List.getElem_mem hi),r,?_,?_,hcell 0 (by omega) _ rfl,hcell 1 (by omega) _ rfl,hcell 2 (by omega) _ rfl,fun P z hz=> ?_⟩
 ·rw [VM.sub_append p.sub,VM.sub_at hi,VM.sub_nil]
 ·exact VM.adr_append p.sub hi hq p.pre
 ·intro z s j' t' et es
  rcases List.append_eq_append_iff.1 et with ⟨u,e1,e2⟩|⟨u,e1,e2⟩
  ·cases u with
   |nil=>
    rw [List.append_nil] at e1
    subst e1
    rw [p.sub] at es
    cases es
    rw [hq];simp
   |cons a u=> simp at e2
  ·cases u with
   |nil=>
    rw [List.append_nil] at e1
    subst e1
    rw [p.sub] at es
    cases es
    rw [hq];simp
   |cons a u=>
    simp only [List.cons_append,List.cons.injEq] at e2
    exact p.pre z s a u e1 es
 ·rw [VM.put_append z p.sub]
  refine p.put P _ ?_
  have hl:y.d.items.length=y.items.length:=by rw [VM.items_d,List.length_map]
  rw [VM.put_d z y i hi,hz,List.drop_eq_getElem_cons hj,putV_at (j:=i) (by rw [hl];exact hf) (by rw [hl];exact hi),VM.d_items_at hi,VM.n_d,itemAt_at p.rdi.rng,e]
theorem PtI.start {D:List RuleD} {x:VM} {S:List ByteArray} {w:World} {lo g o:Nat} (hx:x.own lo w) (hs:x.d.size≤4194304) (hv:validV D (D.length - 1:Nat) x.d=true) (h0:w.cell? ⟨g,o,none⟩=some (.int .i64 x.n)) (h1:w.cell? ⟨g,o+1,none⟩=some x.vb) (h2:w.cell? ⟨g,o+2,none⟩=some x.vi):
  PtI D x S w lo g o 0 [] x (D.length - 1) g o:=
 ⟨rfl,hx,⟨hx.rd,hs,hv,rfl⟩,rfl,fun z s j' t' e=> by simp at e,h0,h1,h2,fun P z hz=> by rw [VM.put_nil];exact hz⟩
end Go.Proofs.YteldgdelmaeokaaDoor
namespace Go.Proofs.YteldgdelmaeokaaDoor
open Go.RowKit
theorem kids_5 {D:List RuleD} {r:RuleD} (h:kindR D r=true) (hk:r.kind=5):r.kids.length=2:=by
 unfold kindR at h
 rw [hk] at h
 simp only [show ¬((5:Int)=1) by decide,show ¬((5:Int)=2) by decide,show ¬((5:Int)=3) by decide,show ¬((5:Int)=4) by decide,if_false,if_true,Bool.and_eq_true] at h
 have:=plain_kids (by decide) h.1
 omega
theorem kids_4 {D:List RuleD} {r:RuleD} (h:kindR D r=true) (hk:r.kind=4):r.kids.length=1:=by
 unfold kindR at h
 rw [hk] at h
 simp only [show ¬((4:Int)=1) by decide,show ¬((4:Int)=2) by decide,show ¬((4:Int)=3) by decide,if_false,if_true,Bool.and_eq_true] at h
 have:=plain_kids (by decide) h.1
 omega
theorem kids_7 {D:List RuleD} {r:RuleD} (h:kindR D r=true) (hk:r.kind=7):r.kids.length=r.tags.length+1:=by
 unfold kindR at h
 rw [hk] at h
 simp only [show ¬((7:Int)=1) by decide,show ¬((7:Int)=2) by decide,show ¬((7:Int)=3) by decide,show ¬((7:Int)=4) by decide,show ¬((7:Int)=5) by decide,show ¬((7:Int)=6) by decide,if_false,if_true,Bool.and_eq_true] at h
 have h2:=h.2
 unfold okTags at h2
 simp only [Bool.and_eq_true,beq_iff_eq] at h2
 omega
theorem kids_8 {D:List RuleD} {r:RuleD} (h:kindR D r=true) (hk:r.kind=8∨r.kind=9):r.kids.length=1:=by
 unfold kindR at h
 rw [if_neg (by omega),if_neg (by omega),if_neg (by omega),if_neg (by omega),if_neg (by omega),if_neg (by omega),if_neg (by omega),if_pos hk] at h
 have:=plain_kids (by decide) h
 omega
theorem itemR_5 {r:RuleD} {n:Int} {i:Nat} (h:r.kind=5):itemR r n i=kid r 1:=by unfold itemR;rw [if_pos h]
theorem itemR_6 {r:RuleD} {n:Int} {i:Nat} (h:r.kind=6) (hi:i < r.kids.length):itemR r n i=r.kids[i]:=by unfold itemR;rw [if_neg (by omega),if_pos h,if_pos hi,kid_at r i hi]
theorem itemR_6' {r:RuleD} {n:Int} {i:Nat} (h:r.kind=6) (hi:¬i < r.kids.length):itemR r n i= -1:=by unfold itemR;rw [if_neg (by omega),if_pos h,if_neg hi]
theorem itemR_7 {r:RuleD} {n:Int} {i k:Nat} (h:r.kind=7) (hk:tagAt r n=k):itemR r n i=kid r (k+1):=by
 unfold itemR;rw [if_neg (by omega),if_neg (by omega),if_pos h,hk,if_neg (by omega),Int.toNat_natCast]
theorem itemR_7' {r:RuleD} {n:Int} {i:Nat} (h:r.kind=7) (hk:tagAt r n= -1):itemR r n i= -1:=by
 unfold itemR;rw [if_neg (by omega),if_neg (by omega),if_pos h,hk,if_pos (by omega)]
theorem itemR_8 {r:RuleD} {n:Int} {i:Nat} (h:r.kind=8∨r.kind=9):itemR r n i=kid r 0:=by
 unfold itemR;rw [if_neg (by omega),if_neg (by omega),if_neg (by omega),if_pos h]
theorem itemR_no {r:RuleD} {n:Int} {i:Nat} (h5:r.kind≠5) (h6:r.kind≠6) (h7:r.kind≠7) (h8:r.kind≠8) (h9:r.kind≠9):itemR r n i= -1:=by
 unfold itemR;rw [if_neg h5,if_neg h6,if_neg h7,if_neg (by omega)]
set_option maxHeartbeats 4000000 in
set_option maxRecDepth 100000 in
theorem l9Item_any (D:List RuleD) (r:RM) (n:Int) (i:Nat) (B:Nat) (w:World) (h:r.rd w B) (hB:B≤w.heap.size) (hk:kindR D r.d=true) (sm:r.d.small 1048576) (hi:i≤4194304):
  Calls Tryd.prog 39 #[rmV r, .int .i64 n, .int .i64 i] w fun e w'=> e= .returned (.int .i64 (itemR r.d n i))∧Below w.heap.size w w':=by
 obtain ⟨Ab,cb,eb, -⟩:=h.b.open_
 obtain ⟨An,cn,en, -⟩:=h.n.one
 obtain ⟨At,ct,et,hct,hmt,htc⟩:=h.t.one
 obtain ⟨Ak,ck,ek,hck,hmk,hkc⟩:=h.k.one
 have s3:=sm.tags
 have s4:=sm.kids
 clear h
 unfold rmV
 rw [eb,en,et,ek]
 clear eb en et ek sm
 generalize r.d=d at*
 obtain ⟨cs,hcs⟩:∃cs:Array Value,cs= #[.string d.name, .int .i64 d.kind, .int .i64 d.size, .bool d.little, .slice Ab d.bytes.length cb, .slice An d.names.length cn, .slice At d.tags.length ct, .slice Ak d.kids.length ck]:=⟨_,rfl⟩
 have hbD:Below w.heap.size w (w.alloc (.cells cs 73)):=(Below.refl w.heap.size w).alloc (Nat.le_refl _) _
 subst hcs
 have hkd:∀j (hj:j < d.kids.length),∃b off,Ak=some ⟨b,off,none⟩∧b < B∧(w.alloc (.cells #[.string d.name, .int .i64 d.kind, .int .i64 d.size, .bool d.little, .slice Ab d.bytes.length cb, .slice An d.names.length cn, .slice At d.tags.length ct, .slice Ak d.kids.length ck] 73)).cell? ⟨b,off+j,none⟩=some (.int .i64 (kid d j)):=fun j hj=> by
  obtain ⟨b,off,e,hbB,hc0⟩:=hkc j hj
  exact ⟨b,off,e,hbB,by rw [kid_at d j hj];exact cell_keep hc0 (hbD.mono hB) hbB⟩
 by_cases q5:d.kind=5
 ·have HX:=Lib.hid (itemR_5 (n:=n) (i:=i) q5)
  have hl:=kids_5 hk q5
  obtain ⟨b,off,rfl,hbB,hc1⟩:=hkd 1 (by omega)
  generalize kid d 1=kv at*
  rw [hl] at hc1 hbD ⊢
  rw [q5] at hc1 hbD ⊢
  clear hkd hkc htc q5 hl hk
  go_enter Tryd.func39,Tryd.ntmps39
  go_wp2
  go_ret
  exact ⟨ret_int HX.out.symm,hbD⟩
 have f5:(d.kind==5)=false:=beq_eq_false_iff_ne.2 q5
 by_cases q6:d.kind=6
 ·by_cases hik:i < d.kids.length
  ·have HX:=Lib.hid ((itemR_6 (n:=n) q6 hik).trans (kid_at d i hik).symm)
   obtain ⟨b,off,rfl,hbB,hc1⟩:=hkd i hik
   generalize kid d i=kv at*
   rw [q6] at hc1 hbD ⊢
   clear hkd hkc htc q5 q6 f5 hk
   go_enter Tryd.func39,Tryd.ntmps39
   go_wp2
   go_ret
   exact ⟨ret_int HX.out.symm,hbD⟩
  ·have HX:=Lib.hid (itemR_6' (n:=n) q6 hik)
   have hge:d.kids.length≤i:=by omega
   rw [q6] at hbD ⊢
   clear hkd hkc htc q5 q6 f5 hk hik
   go_enter Tryd.func39,Tryd.ntmps39
   go_wp2
   go_ret
   exact ⟨ret_int HX.out.symm,hbD⟩
 have f6:(d.kind==6)=false:=beq_eq_false_iff_ne.2 q6
 by_cases q7:d.kind=7
 ·have hl:=kids_7 hk q7
  have H7:=Lib.hid q7
  have htd:∀j (hj:j < d.tags.length),∃b off,At=some ⟨b,off,none⟩∧(w.alloc (.cells #[.string d.name, .int .i64 d.kind, .int .i64 d.size, .bool d.little, .slice Ab d.bytes.length cb, .slice An d.names.length cn, .slice At d.tags.length ct, .slice Ak d.kids.length ck] 73)).cell? ⟨b,off+j,none⟩=some (.int .i64 d.tags[j]):=fun j hj=> by
   obtain ⟨b,off,e,hbB,hc0⟩:=htc j hj
   exact ⟨b,off,e,cell_keep hc0 (hbD.mono hB) hbB⟩
  rw [q7] at hbD hkd htd ⊢
  have c6:(w.alloc (.cells #[.string d.name, .int .i64 7, .int .i64 d.size, .bool d.little, .slice Ab d.bytes.length cb, .slice An d.names.length cn, .slice At d.tags.length ct, .slice Ak d.kids.length ck] 73)).cell? ⟨w.heap.size,6,none⟩=some (.slice At d.tags.length ct):=by simp [go_sem]
  have c7:(w.alloc (.cells #[.string d.name, .int .i64 7, .int .i64 d.size, .bool d.little, .slice Ab d.bytes.length cb, .slice An d.names.length cn, .slice At d.tags.length ct, .slice Ak d.kids.length ck] 73)).cell? ⟨w.heap.size,7,none⟩=some (.slice Ak d.kids.length ck):=by simp [go_sem]
  have HH:=Lib.hid (And.intro hkd (And.intro htd hbD))
  obtain ⟨W0,hW0⟩:∃W0,W0=w.alloc (.cells #[.string d.name, .int .i64 7, .int .i64 d.size, .bool d.little, .slice Ab d.bytes.length cb, .slice An d.names.length cn, .slice At d.tags.length ct, .slice Ak d.kids.length ck] 73):=⟨_,rfl⟩
  rw [←hW0] at HH c6 c7
  clear hkd htd hbD hkc htc q5 q6 q7 f5 f6 hk
  have HL:=Lib.hid hl
  clear hl
  go_enter Tryd.func39,Tryd.ntmps39
  go_wp2
  rw [←hW0]
  clear hW0
  go_loop [7] (fun t=> ∃j:Nat,j≤d.tags.length∧t= .int .i64 j∧Hid (∀q (hq:q < j) (hl:q < d.tags.length),d.tags[q]≠n)) (fun t=> d.tags.length - (intOf t).toNat)
  case atStart=> exact ⟨0,Nat.zero_le _,rfl,Lib.hid (fun q hq=> by omega)⟩
  case round=>
   obtain ⟨j,hj,rfl,HN⟩:=hrel
   by_cases hlt:j < d.tags.length
   ·obtain ⟨b,off,rfl,hc1⟩:=HH.out.2.1 j hlt
    by_cases hn:d.tags[j]=n
    ·have HX:=Lib.hid (itemR_7 (i:=i) H7.out (tagAt_at hlt hn fun q hq=> HN.out q hq (by omega)))
     obtain ⟨b2,off2,rfl, -,hc2⟩:=HH.out.1 (j+1) (by have:=HL.out;omega)
     have hlk:j+1 < d.kids.length:=by have:=HL.out;omega
     generalize kid d (j+1)=kv at*
     have fe:(d.tags[j]==n)=true:=by rw [hn];simp
     clear hn
     go_wp2
     go_ret
     exact ⟨ret_int HX.out.symm,HH.out.2.2⟩
    ·have fe:(d.tags[j]==n)=false:=beq_eq_false_iff_ne.2 hn
     have HM:=Lib.hid (show ∀q (hq:q < j+1) (hl:q < d.tags.length),d.tags[q]≠n from fun q hq hl=> by
      by_cases e:q=j
      ·subst e;exact hn
      ·exact HN.out q (by omega) hl)
     clear hn
     go_wp2
     go_round
     case rel=> exact ⟨j+1,by omega,by go_num,HM⟩
     case measure=> simp [intOf];omega
   ·have HX:=Lib.hid (itemR_7' (i:=i) H7.out (tagAt_no (n:=n) fun q hq=> HN.out q (by omega) hq))
    go_wp2
    go_ret
    exact ⟨ret_int HX.out.symm,HH.out.2.2⟩
 have f7:(d.kind==7)=false:=beq_eq_false_iff_ne.2 q7
 by_cases q8:d.kind=8
 ·have HX:=Lib.hid (itemR_8 (n:=n) (i:=i) (.inl q8))
  have hl:=kids_8 hk (.inl q8)
  obtain ⟨b,off,rfl,hbB,hc1⟩:=hkd 0 (by omega)
  rw [Nat.add_zero] at hc1
  generalize kid d 0=kv at*
  rw [hl] at hc1 hbD ⊢
  rw [q8] at hc1 hbD ⊢
  clear hkd hkc htc q5 q6 q7 q8 f5 f6 f7 hl hk
  go_enter Tryd.func39,Tryd.ntmps39
  go_wp2
  go_ret
  exact ⟨ret_int HX.out.symm,hbD⟩
 by_cases q9:d.kind=9
 ·have HX:=Lib.hid (itemR_8 (n:=n) (i:=i) (.inr q9))
  have hl:=kids_8 hk (.inr q9)
  obtain ⟨b,off,rfl,hbB,hc1⟩:=hkd 0 (by omega)
  rw [Nat.add_zero] at hc1
  generalize kid d 0=kv at*
  rw [hl] at hc1 hbD ⊢
  rw [q9] at hc1 hbD ⊢
  clear hkd hkc htc q5 q6 q7 q8 q9 f5 f6 f7 hl hk
  go_enter Tryd.func39,Tryd.ntmps39
  go_wp2
  go_ret
  exact ⟨ret_int HX.out.symm,hbD⟩
 ·have HX:=Lib.hid (itemR_no (n:=n) (i:=i) q5 q6 q7 q8 q9)
  have f8:(d.kind==8)=false:=beq_eq_false_iff_ne.2 q8
  have f9:(d.kind==9)=false:=beq_eq_false_iff_ne.2 q9
  clear hkd hkc htc q5 q6 q7 q8 q9 hk
  go_enter Tryd.func39,Tryd.ntmps39
  go_wp2
  go_ret
  exact ⟨ret_int HX.out.symm,hbD⟩
end Go.Proofs.YteldgdelmaeokaaDoor
