/- Out of DescZ, DescZ2, DescO, DescAlt, StepW, FolP, ValP, ValPut, ValSz, ValTo, ValMk, ValPl, ValI: the walks and plain laws that the claim needs. No condition but those that each theorem names. -/
import Derived.Test.YteldgdelmaeokaaGreatDoorGe
import Derived.WalkSpells
import Derived.WalkLawsBesides
import Derived.BigQuiet
import Derived.Deep.QuietTactic
import Derived.Deep.RegionHeld3
import Derived.Test.YteldgdelmaeokaaGreatDoorGa
import Derived.Test.YteldgdelmaeokaaGreatDoorGb
set_option linter.unusedSimpArgs false
set_option linter.unusedVariables false
set_option maxHeartbeats 4000000
set_option maxRecDepth 100000
namespace Go.Proofs.YteldgdelmaeokaaGreatDoor
open Go.Proofs.Tryz Go.RowKit
theorem l4Kind_any (v:Value) (l:List RM) (r:RM) (B:Nat) (w:World) (h:Qz w B v l) (hB:B≤w.heap.size) (ok:∀r∈l,r.d.ok) (hr:r.rd w B) (hk:r.d.ok) (hsm:r.d.small 1048576):
  Calls prog 92 #[.agg #[v],Ja r] w fun e w'=> e= .returned (.bool (Zp (l.map RM.d) r.d && Zx r.d))∧Below w.heap.size w w':=by
 by_cases q1:r.d.kind=1
 ·exact l4Kind_1 v l r B w h hB ok hr hk hsm q1
 by_cases q2:r.d.kind=2
 ·exact l4Kind_2 v l r B w h hB ok hr hk hsm q2
 by_cases q3:r.d.kind=3
 ·exact l4Kind_3 v l r B w h hB ok hr hk hsm q3
 by_cases q4:r.d.kind=4
 ·exact l4Kind_4 v l r B w h hB ok hr hk hsm q4
 by_cases q5:r.d.kind=5
 ·exact l4Kind_5 v l r B w h hB ok hr hk hsm q5
 by_cases q6:r.d.kind=6
 ·exact l4Kind_6 v l r B w h hB ok hr hk hsm q6
 by_cases q7:r.d.kind=7
 ·exact l4Kind_7 v l r B w h hB ok hr hk hsm q7
 by_cases q8:r.d.kind=8
 ·exact l4Kind_8 v l r B w h hB ok hr hk hsm q8
 by_cases q9:r.d.kind=9
 ·exact l4Kind_9 v l r B w h hB ok hr hk hsm q9
 by_cases q10:r.d.kind=10
 ·exact l4Kind_10 v l r B w h hB ok hr hk hsm q10
 exact l4Kind_0 v l r B w h hB ok hr hk hsm (by omega)
theorem Hi (v:Value) (l:List RM) (r:RM) (B:Nat) (w:World) (h:Qz w B v l) (hB:B≤w.heap.size) (ok:∀r∈l,r.d.ok) (hr:r.rd w B) (hk:r.d.ok) (hsm:r.d.small 1048576):
  Calls prog 96 #[.agg #[v],Ja r] w fun e w'=> e= .returned (.bool (Zp (l.map RM.d) r.d))∧Below w.heap.size w w':=by
 by_cases q1:r.d.kind=1
 ·exact validKind_1 v l r B w h hB ok hr hk hsm q1
 by_cases q2:r.d.kind=2
 ·exact validKind_2 v l r B w h hB ok hr hk hsm q2
 by_cases q3:r.d.kind=3
 ·exact validKind_3 v l r B w h hB ok hr hk hsm q3
 by_cases q4:r.d.kind=4
 ·exact validKind_4 v l r B w h hB ok hr hk hsm q4
 by_cases q5:r.d.kind=5
 ·exact validKind_5 v l r B w h hB ok hr hk hsm q5
 by_cases q6:r.d.kind=6
 ·exact validKind_6 v l r B w h hB ok hr hk hsm q6
 by_cases q7:r.d.kind=7
 ·exact validKind_7 v l r B w h hB ok hr hk hsm q7
 by_cases q8:r.d.kind=8
 ·exact validKind_8 v l r B w h hB ok hr hk hsm q8
 by_cases q9:r.d.kind=9
 ·exact validKind_9 v l r B w h hB ok hr hk hsm q9
 by_cases q10:r.d.kind=10
 ·exact Fd v l r B w h hB ok hr hk hsm q10
 exact validKind_0 v l r B w h hB ok hr hk hsm (by omega)
theorem Ox (v:Value) (l:List RM) (i:Int) (B:Nat) (w:World) (h:Qz w B v l) (hB:B≤w.heap.size) (hi:Qa i) (ok:∀r∈l,r.d.ok) (sm:∀r∈l,r.d.small 1048576):
  Calls prog 81 #[.agg #[v], .int .i64 i] w fun e w'=> e= .returned (.bool (Yj (l.map RM.d) i))∧Below w.heap.size w w':=by
 have hKD:∀W r,r∈l→Below w.heap.size w W→Calls prog 92 #[.agg #[v],Ja r] W fun e w'=> e= .returned (.bool (Zp (l.map RM.d) r.d && Zx r.d))∧Below W.heap.size W w':=fun W r hr hb=>
  l4Kind_any v l r B W (h.below (hb.mono hB)) (by have:=hb.size;omega) ok ((h.2 r hr).below (hb.mono hB)) (ok r hr) (sm r hr)
 obtain ⟨A,cd,rfl,hc,hm,hcell⟩:=h.open_
 have hm0:=hm
 unfold maxLen at hm
 by_cases hr:0≤i∧i < l.length
 rotate_left
 ·have HV:=Fs (show Yj (l.map RM.d) i=false from Kt _ _ (by simp;omega))
  have hbD:=Below.allocW w (.cells #[.slice A l.length cd] 26) (Fu _)
  clear hcell hKD h
  go_enter func81,ntmps81
  go_wp2_with (go_at_call 30;refine (Qi _ _ _ _).mono ?_;rintro e w1 ⟨rfl,rfl⟩;rw [Jl (by omega)])
  go_ret
  exact ⟨Zd HV.out.symm,hbD⟩
 ·obtain ⟨k,hk,rfl,hat⟩:=Yd (D:=l.map RM.d) hr.1 (by simpa using hr.2)
  have hkl:k < l.length:=by simpa using hk
  clear hat
  have HV:=Fs (show Yj (l.map RM.d) (k:Int)=Xi (l.map RM.d) k l[k].d by rw [Pm _ k hk,List.getElem_map])
  have hKK:=fun W=> hKD W l[k] (Fw hkl)
  have hrd:=h.2 l[k] (Fw hkl)
  have hok:=ok l[k] (Fw hkl)
  have hNM:∀j (hj:j < l.length),∃b off,A=some ⟨b,off,none⟩∧b < B∧w.cell? ⟨b,off+j*8,none⟩=some (.string l[j].d.name):=fun j hj=> by
   obtain ⟨b,off,e,hb,c,_⟩:=hcell j hj
   exact ⟨b,off,e,hb,c⟩
  have hOT:∀s j (hj:j < l.length),Xh (l.map RM.d) s j= !(l[j].d.name.toList==s.toList):=fun s j hj=> by rw [Oi _ _ j (by simpa using hj),List.getElem_map]
  have HNM:=Fs hNM
  have HOT:=Fs hOT
  obtain ⟨bd,od,rfl,hbB,g0,g1,g2,g3,g4,g5,g6,g7⟩:=hcell k hkl
  clear hcell hNM hOT hk hKD ok sm h
  generalize hD:l.map RM.d=D at*
  clear hD
  generalize hre:l[k]=r at*
  obtain ⟨⟨name,kind,size,little,bytes,names,tags,kids⟩,vb,vn,vt,vk⟩:=r
  clear hre
  have h1:Xu w B vb bytes:=hrd.b
  have h2:Va w B vn names:=hrd.n
  have h3:Yt w B vt tags:=hrd.t
  have h4:Yt w B vk kids:=hrd.k
  have hkn:name.size≤maxLen:=hok.name
  have hkk:∀a∈kids,Qa a:=hok.kids
  obtain ⟨Ab,cb,rfl,hb1,hb2,x1⟩:=h1.open_
  obtain ⟨An,cn,rfl,hn1,hn2,x2⟩:=h2.one
  obtain ⟨At,ct,rfl,ht1,ht2,x3⟩:=h3.one
  obtain ⟨Ak,ck,rfl,hk1,hk2,x4⟩:=h4.one
  unfold Ja at hKK
  simp only at hKK g0 g1 g2 g3 g4 g5 g6 g7 HV
  clear hrd hok h1 h2 h3 h4 x1 x2 x3
  unfold maxLen at hb2 hn2 ht2 hk2
  have HKK:=Fs hKK
  clear hKK
  have hO1:Jg (Xh D name) k=false→Xi D k ⟨name,kind,size,little,bytes,names,tags,kids⟩=false:=fun h=> by unfold Xi;simp only;rw [h];rfl
  have hO2:Jg (Xh D name) k=true→Xi D k ⟨name,kind,size,little,bytes,names,tags,kids⟩=(Jg (Re kids (k:Int)) kids.length && (Jc name && (Zp D ⟨name,kind,size,little,bytes,names,tags,kids⟩ && Zx ⟨name,kind,size,little,bytes,names,tags,kids⟩))):=fun h=> by unfold Xi;simp only;rw [h];rfl
  generalize (Zp D ⟨name,kind,size,little,bytes,names,tags,kids⟩ && Zx ⟨name,kind,size,little,bytes,names,tags,kids⟩)=kd at*
  generalize Xi D k ⟨name,kind,size,little,bytes,names,tags,kids⟩=rk at*
  have b0:Below w.heap.size w ((w.alloc (.cells #[.slice (some ⟨bd,od,none⟩) l.length cd] 26)).alloc (.cells #[.string name, .int .i64 kind, .int .i64 size, .bool little, .slice Ab bytes.length cb, .slice An names.length cn, .slice At tags.length ct, .slice Ak kids.length ck] 50)):=(((Fv _ _).alloc (Fu _) _).alloc (by simp) _)
  have cD:((w.alloc (.cells #[.slice (some ⟨bd,od,none⟩) l.length cd] 26)).alloc (.cells #[.string name, .int .i64 kind, .int .i64 size, .bool little, .slice Ab bytes.length cb, .slice An names.length cn, .slice At tags.length ct, .slice Ak kids.length ck] 50)).cell? ⟨w.heap.size,0,none⟩=some (.slice (some ⟨bd,od,none⟩) l.length cd):=by simp [go_sem]
  have c0:((w.alloc (.cells #[.slice (some ⟨bd,od,none⟩) l.length cd] 26)).alloc (.cells #[.string name, .int .i64 kind, .int .i64 size, .bool little, .slice Ab bytes.length cb, .slice An names.length cn, .slice At tags.length ct, .slice Ak kids.length ck] 50)).cell? ⟨w.heap.size+1,0,none⟩=some (.string name):=by simp [go_sem]
  have c1:((w.alloc (.cells #[.slice (some ⟨bd,od,none⟩) l.length cd] 26)).alloc (.cells #[.string name, .int .i64 kind, .int .i64 size, .bool little, .slice Ab bytes.length cb, .slice An names.length cn, .slice At tags.length ct, .slice Ak kids.length ck] 50)).cell? ⟨w.heap.size+1,1,none⟩=some (.int .i64 kind):=by simp [go_sem]
  have c2:((w.alloc (.cells #[.slice (some ⟨bd,od,none⟩) l.length cd] 26)).alloc (.cells #[.string name, .int .i64 kind, .int .i64 size, .bool little, .slice Ab bytes.length cb, .slice An names.length cn, .slice At tags.length ct, .slice Ak kids.length ck] 50)).cell? ⟨w.heap.size+1,2,none⟩=some (.int .i64 size):=by simp [go_sem]
  have c3:((w.alloc (.cells #[.slice (some ⟨bd,od,none⟩) l.length cd] 26)).alloc (.cells #[.string name, .int .i64 kind, .int .i64 size, .bool little, .slice Ab bytes.length cb, .slice An names.length cn, .slice At tags.length ct, .slice Ak kids.length ck] 50)).cell? ⟨w.heap.size+1,3,none⟩=some (.bool little):=by simp [go_sem]
  have c4:((w.alloc (.cells #[.slice (some ⟨bd,od,none⟩) l.length cd] 26)).alloc (.cells #[.string name, .int .i64 kind, .int .i64 size, .bool little, .slice Ab bytes.length cb, .slice An names.length cn, .slice At tags.length ct, .slice Ak kids.length ck] 50)).cell? ⟨w.heap.size+1,4,none⟩=some (.slice Ab bytes.length cb):=by simp [go_sem]
  have c5:((w.alloc (.cells #[.slice (some ⟨bd,od,none⟩) l.length cd] 26)).alloc (.cells #[.string name, .int .i64 kind, .int .i64 size, .bool little, .slice Ab bytes.length cb, .slice An names.length cn, .slice At tags.length ct, .slice Ak kids.length ck] 50)).cell? ⟨w.heap.size+1,5,none⟩=some (.slice An names.length cn):=by simp [go_sem]
  have c6:((w.alloc (.cells #[.slice (some ⟨bd,od,none⟩) l.length cd] 26)).alloc (.cells #[.string name, .int .i64 kind, .int .i64 size, .bool little, .slice Ab bytes.length cb, .slice An names.length cn, .slice At tags.length ct, .slice Ak kids.length ck] 50)).cell? ⟨w.heap.size+1,6,none⟩=some (.slice At tags.length ct):=by simp [go_sem]
  have c7:((w.alloc (.cells #[.slice (some ⟨bd,od,none⟩) l.length cd] 26)).alloc (.cells #[.string name, .int .i64 kind, .int .i64 size, .bool little, .slice Ab bytes.length cb, .slice An names.length cn, .slice At tags.length ct, .slice Ak kids.length ck] 50)).cell? ⟨w.heap.size+1,7,none⟩=some (.slice Ak kids.length ck):=by simp [go_sem]
  have hz:((w.alloc (.cells #[.slice (some ⟨bd,od,none⟩) l.length cd] 26)).alloc (.cells #[.string name, .int .i64 kind, .int .i64 size, .bool little, .slice Ab bytes.length cb, .slice An names.length cn, .slice At tags.length ct, .slice Ak kids.length ck] 50)).heap.size=w.heap.size+2:=by simp
  generalize hW0:((w.alloc (.cells #[.slice (some ⟨bd,od,none⟩) l.length cd] 26)).alloc (.cells #[.string name, .int .i64 kind, .int .i64 size, .bool little, .slice Ab bytes.length cb, .slice An names.length cn, .slice At tags.length ct, .slice Ak kids.length ck] 50))=W0 at*
  have HW0:=Fs hW0
  clear hW0
  have HO1:=Fs hO1
  have HO2:=Fs hO2
  clear hO1 hO2
  have hin:Xs (k:Int) 0 ((l.length:Int) - 1)=true:=Xp (by omega) (by omega)
  have HIN:=Fs hin
  clear hin
  have hbD:=Below.allocW w (.cells #[.slice (some ⟨bd,od,none⟩) l.length cd] 26) (Fu _)
  have d0:=Ec hbD g0
  have d1:=Ec hbD g1
  have d2:=Ec hbD g2
  have d3:=Ec hbD g3
  have d4:=Ec hbD g4
  have d5:=Ec hbD g5
  have d6:=Ec hbD g6
  have d7:=Ec hbD g7
  clear g1 g2 g3 g4 g5 g6 g7 g0 hbD
  go_enter func81,ntmps81
  go_wp2_with (go_at_call 30;refine (Qi _ _ _ _).mono ?_;rintro e w1 ⟨rfl,rfl⟩;rw [HIN.out])
  rw [HW0.out]
  clear d0 d1 d2 d3 d4 d5 d6 d7
  go_loopw [6] (fun i wr=> ∃j n:Nat,j≤k∧i= .int .i64 j∧wr=W0.drewN n∧Jg (Xh D name) j=true) (fun i _=> k - (intOf i).toNat)
  case atStart=> exact ⟨0,0,Eb _,rfl,rfl,rfl⟩
  case round=>
   obtain ⟨j,n,hj,rfl,hw,hall⟩:=hrel
   have HW:=Fs hw
   by_cases hlt:j < k
   ·obtain ⟨b,off,e,hbB2,hcn⟩:=HNM.out j (by omega)
    simp only [Option.some.injEq,Addr.mk.injEq,and_true] at e
    obtain ⟨rfl,rfl⟩:=e
    have hcr:wr.cell? ⟨bd,od+j*8,none⟩=some (.string l[j].d.name):=by rw [hw];exact Zz b0 (show bd < w.heap.size by omega) hcn
    have d0:wr.cell? ⟨w.heap.size+1,0,none⟩=some (.string name):=by rw [hw];exact c0
    have dD:wr.cell? ⟨w.heap.size,0,none⟩=some (.slice (some ⟨bd,od,none⟩) l.length cd):=by rw [hw];exact cD
    have hot:=HOT.out name j (by omega)
    have hno:=Vh (Xh D name) j k hlt
    have hst:=Xf (Xh D name) j hall
    have hjl:j < l.length:=by omega
    generalize l[j]=y at*
    clear hcn hall hw
    cases he:(y.d.name.toList==name.toList)
    ·have HX:=Fs (hst (by rw [hot,he];rfl))
     clear hst hno hot cD c0 c7
     go_wp2_with fail
     go_quiet (fail)
     go_wp2
     go_roundw
     case rel=> exact ⟨j+1,_,by omega,by go_num,by rw [HW.out];exact World.drewN_drewN _ _ _,HX.out⟩
     case measure=> simp [intOf];omega
    ·have HX:=Fs (HV.out.trans (HO1.out (hno (by rw [hot,he];rfl))))
     clear hst hno hot cD c0 c7
     go_wp2_with fail
     go_quiet (fail)
     go_wp2
     go_ret
     exact ⟨Zd HX.out.symm,by rw [HW.out];exact Yn (Yn b0 _) _⟩
   ·have hjk:j=k:=by omega
    have HY:=Fs (HV.out.trans (HO2.out (by rw [←hjk];exact hall)))
    have bw:Below w.heap.size w wr:=by rw [hw];exact Yn b0 _
    have dD:wr.cell? ⟨w.heap.size,0,none⟩=some (.slice (some ⟨bd,od,none⟩) l.length cd):=by rw [hw];exact cD
    have d0:wr.cell? ⟨w.heap.size+1,0,none⟩=some (.string name):=by rw [hw];exact c0
    have d1:wr.cell? ⟨w.heap.size+1,1,none⟩=some (.int .i64 kind):=by rw [hw];exact c1
    have d2:wr.cell? ⟨w.heap.size+1,2,none⟩=some (.int .i64 size):=by rw [hw];exact c2
    have d3:wr.cell? ⟨w.heap.size+1,3,none⟩=some (.bool little):=by rw [hw];exact c3
    have d4:wr.cell? ⟨w.heap.size+1,4,none⟩=some (.slice Ab bytes.length cb):=by rw [hw];exact c4
    have d5:wr.cell? ⟨w.heap.size+1,5,none⟩=some (.slice An names.length cn):=by rw [hw];exact c5
    have d6:wr.cell? ⟨w.heap.size+1,6,none⟩=some (.slice At tags.length ct):=by rw [hw];exact c6
    have d7:wr.cell? ⟨w.heap.size+1,7,none⟩=some (.slice Ak kids.length ck):=by rw [hw];exact c7
    clear hall hjk HO1 HO2 HV HOT HNM hw HW cD c0 c1 c2 c3 c4 c5 c6 c7
    go_wp2_with fail
    go_loop [7] (fun i=> ∃j:Nat,j≤kids.length∧i= .int .i64 j∧Jg (Re kids (k:Int)) j=true) (fun i=> kids.length - (intOf i).toNat)
    case atStart=> exact ⟨0,Eb _,rfl,rfl⟩
    case round=>
     obtain ⟨j,hj,rfl,hall⟩:=hrel
     by_cases hlt:j < kids.length
     ·obtain ⟨bk,ok,rfl,hbk,ck0⟩:=x4 j hlt
      have hck:=Zz bw (show bk < w.heap.size by omega) ck0
      have hka:=Mi kids (k:Int) j hlt
      have hno:=Vh (Re kids (k:Int)) j kids.length hlt
      have hst:=Xf (Re kids (k:Int)) j hall
      generalize kids[j]=x at*
      cases he:Xs x 0 ((k:Int) - 1)
      ·have HX:=Fs (HY.out.trans (show _=false by rw [hno (by rw [hka,he])];rfl))
       have HE:=Fs he
       clear hst hno hka hall he x4 ck0
       go_wp2_with (go_at_call 30;refine (Qi _ _ _ _).mono ?_;rintro e w1 ⟨rfl,rfl⟩;rw [HE.out])
       go_ret
       exact ⟨Zd HX.out.symm,bw⟩
      ·have HX:=Fs (hst (by rw [hka,he]))
       have HE:=Fs he
       clear hst hno hka hall he x4 ck0
       go_wp2_with (go_at_call 30;refine (Qi _ _ _ _).mono ?_;rintro e w1 ⟨rfl,rfl⟩;rw [HE.out])
       go_round
       case rel=> exact ⟨j+1,by omega,by go_num,HX.out⟩
       case measure=> simp [intOf];omega
     ·have hjk:j=kids.length:=by omega
      have HZ:=Fs (HY.out.trans (show _=(Jc name && kd) by rw [←hjk,hall];rfl))
      clear hall hjk x4 HY
      cases hn:Jc name
      ·have HN:=Fs hn
       have HX:=Fs (HZ.out.trans (by rw [hn];try rfl))
       clear hn HZ
       go_wp2_with fail
       refine (Jn name _ hkn).mono ?_
       rintro e w1 ⟨rfl,rfl⟩
       rw [HN.out]
       go_wp2
       go_ret
       exact ⟨Zd HX.out.symm,bw⟩
      ·have HN:=Fs hn
       have HX:=Fs (HZ.out.trans (by rw [hn];try rfl))
       clear hn HZ
       go_wp2_with fail
       refine (Jn name _ hkn).mono ?_
       rintro e w1 ⟨rfl,rfl⟩
       rw [HN.out]
       go_wp2_with fail
       refine (HKK.out _ bw).mono ?_
       rintro e w2 ⟨rfl,bel⟩
       have b2:=Zb bel bw
       clear bel
       go_wp2
       go_ret
       exact ⟨Zd HX.out.symm,b2⟩
theorem cutA_zero (b o m s:Nat):cutA (some ⟨b,o,none⟩) m 0 s=some ⟨b,o,none⟩:=by
 unfold cutA
 split
 ·rfl
 ·simp [Addr.add]
theorem run_cutZ {P:Program} {t e:TypeId} {size:Nat} (ht:P.underlying t=some (.slice e)) (hs:∀w,(sizeOf e).run P w= .ok size w) (b o len cap:Nat) (h:Nat) (h2:h≤cap) (w:World):
  (Instr.slice t (.slice (some ⟨b,o,none⟩) len cap) none (some (.int .i64 h)) none).run P w= .ok (.slice (some ⟨b,o,none⟩) h cap) w:=by
 rw [Ig ht hs _ _ _ _ h rfl h2,cutA_zero,Nat.sub_zero,Nat.sub_zero]
theorem Mj (v:Value) (l:List RM) (i:Int) (B:Nat) (w:World) (h:Qz w B v l) (hB:B≤w.heap.size) (hi:Qa i) (ok:∀r∈l,r.d.ok) (sm:∀r∈l,r.d.small 1048576):
  Calls prog 89 #[.agg #[v], .int .i64 i] w fun e w'=> e= .returned (.bool (Yj (l.map RM.d) i))∧Below w.heap.size w w':=by
 have hKD:∀W r,r∈l→Below w.heap.size w W→Calls prog 96 #[.agg #[v],Ja r] W fun e w'=> e= .returned (.bool (Zp (l.map RM.d) r.d))∧Below W.heap.size W w':=fun W r hr hb=>
  Hi v l r B W (h.below (hb.mono hB)) (by have:=hb.size;omega) ok ((h.2 r hr).below (hb.mono hB)) (ok r hr) (sm r hr)
 have hHR:∀W,Below w.heap.size w W→Calls prog 77 #[.agg #[v], .int .i64 i] W fun e w'=> e= .returned (.bool (Xs i 0 ((l.length:Int) - 1)))∧Below W.heap.size W w':=fun W hb=> Ph v l i B W (h.below (hb.mono hB))
 obtain ⟨A,cd,rfl,hc,hm,hcell⟩:=h.open_
 have hm0:=hm
 unfold maxLen at hm
 by_cases hr:0≤i∧i < l.length
 rotate_left
 ·have HV:=Fs (show Yj (l.map RM.d) i=false from Kt _ _ (by simp;omega))
  have hbD:=Below.allocW w (.cells #[.slice A l.length cd] 26) (Fu _)
  have HHR:=Fs hHR
  clear hcell hKD h hHR
  go_enter func89,ntmps89
  go_wp2_with fail
  refine (HHR.out _ hbD).mono ?_
  rintro e w1 ⟨rfl,bel⟩
  rw [Jl (by omega)]
  have b1:=Zb bel hbD
  clear bel
  go_wp2
  go_ret
  exact ⟨Zd HV.out.symm,b1⟩
 ·obtain ⟨k,hk,rfl,hat⟩:=Yd (D:=l.map RM.d) hr.1 (by simpa using hr.2)
  have hkl:k < l.length:=by simpa using hk
  clear hat
  have HV:=Fs (show Yj (l.map RM.d) (k:Int)=Xi (l.map RM.d) k l[k].d by rw [Pm _ k hk,List.getElem_map])
  have hKK:=fun W=> hKD W l[k] (Fw hkl)
  have hrd:=h.2 l[k] (Fw hkl)
  have hok:=ok l[k] (Fw hkl)
  have hNM:∀j (hj:j < l.length),∃b off,A=some ⟨b,off,none⟩∧b < B∧w.cell? ⟨b,off+j*8,none⟩=some (.string l[j].d.name):=fun j hj=> by
   obtain ⟨b,off,e,hb,c,_⟩:=hcell j hj
   exact ⟨b,off,e,hb,c⟩
  have hOT:∀s j (hj:j < l.length),Xh (l.map RM.d) s j= !(l[j].d.name.toList==s.toList):=fun s j hj=> by rw [Oi _ _ j (by simpa using hj),List.getElem_map]
  have hALL:∀j (hj:j < l.length),∃b off A1 c1 A2 c2 A3 c3 A4 c4,A=some ⟨b,off,none⟩∧b < B∧w.cell? ⟨b,off+j*8,none⟩=some (.string l[j].d.name)∧w.cell? ⟨b,off+j*8+1,none⟩=some (.int .i64 l[j].d.kind)∧
   w.cell? ⟨b,off+j*8+2,none⟩=some (.int .i64 l[j].d.size)∧w.cell? ⟨b,off+j*8+3,none⟩=some (.bool l[j].d.little)∧w.cell? ⟨b,off+j*8+4,none⟩=some (.slice A1 l[j].d.bytes.length c1)∧
   w.cell? ⟨b,off+j*8+5,none⟩=some (.slice A2 l[j].d.names.length c2)∧w.cell? ⟨b,off+j*8+6,none⟩=some (.slice A3 l[j].d.tags.length c3)∧w.cell? ⟨b,off+j*8+7,none⟩=some (.slice A4 l[j].d.kids.length c4):=fun j hj=> by
   obtain ⟨b,off,e,hb,x0,x1,x2,x3,x4,x5,x6,x7⟩:=hcell j hj
   have hj2:=h.2 l[j] (Fw hj)
   obtain ⟨A1,c1,y1, -⟩:=hj2.b.open_
   obtain ⟨A2,c2,y2, -⟩:=hj2.n.one
   obtain ⟨A3,c3,y3, -⟩:=hj2.t.one
   obtain ⟨A4,c4,y4, -⟩:=hj2.k.one
   rw [y1] at x4
   rw [y2] at x5
   rw [y3] at x6
   rw [y4] at x7
   exact ⟨b,off,A1,c1,A2,c2,A3,c3,A4,c4,e,hb,x0,x1,x2,x3,x4,x5,x6,x7⟩
  have HAL:=Fs hALL
  clear hALL
  have HNM:=Fs hNM
  have HOT:=Fs hOT
  obtain ⟨bd,od,rfl,hbB,g0,g1,g2,g3,g4,g5,g6,g7⟩:=hcell k hkl
  clear hcell hNM hOT hk hKD ok sm h
  generalize hD:l.map RM.d=D at*
  clear hD
  generalize hre:l[k]=r at*
  obtain ⟨⟨name,kind,size,little,bytes,names,tags,kids⟩,vb,vn,vt,vk⟩:=r
  clear hre
  have h1:Xu w B vb bytes:=hrd.b
  have h2:Va w B vn names:=hrd.n
  have h3:Yt w B vt tags:=hrd.t
  have h4:Yt w B vk kids:=hrd.k
  have hkn:name.size≤maxLen:=hok.name
  have hkk:∀a∈kids,Qa a:=hok.kids
  obtain ⟨Ab,cb,rfl,hb1,hb2,x1⟩:=h1.open_
  obtain ⟨An,cn,rfl,hn1,hn2,x2⟩:=h2.one
  obtain ⟨At,ct,rfl,ht1,ht2,x3⟩:=h3.one
  obtain ⟨Ak,ck,rfl,hk1,hk2,x4⟩:=h4.one
  unfold Ja at hKK
  simp only at hKK g0 g1 g2 g3 g4 g5 g6 g7 HV
  clear hrd hok h1 h2 h3 h4 x1 x2 x3
  unfold maxLen at hb2 hn2 ht2 hk2
  have HKK:=Fs hKK
  clear hKK
  have hO:Xi D k ⟨name,kind,size,little,bytes,names,tags,kids⟩=(Jg (Xh D name) k && (Jg (Re kids (k:Int)) kids.length && (Jc name && (Zp D ⟨name,kind,size,little,bytes,names,tags,kids⟩ && Zx ⟨name,kind,size,little,bytes,names,tags,kids⟩)))):=rfl
  have hlo:Zx ⟨name,kind,size,little,bytes,names,tags,kids⟩=(!little||kind==1):=rfl
  generalize Zp D ⟨name,kind,size,little,bytes,names,tags,kids⟩=kd at*
  generalize Xi D k ⟨name,kind,size,little,bytes,names,tags,kids⟩=rk at*
  rw [hlo] at hO
  have HO:=Fs hO
  clear hO hlo
  have HV2:=Fs (HV.out.trans HO.out)
  have hin:Xs (k:Int) 0 ((l.length:Int) - 1)=true:=Xp (by omega) (by omega)
  have HIN:=Fs hin
  have HHR:=Fs hHR
  have hcut:=run_cutZ (P:=prog) underlying24 sizeOf50 bd od l.length cd k (by omega)
  have HCUT:=Fs hcut
  have hbD:=Below.allocW w (.cells #[.slice (some ⟨bd,od,none⟩) l.length cd] 26) (Fu _)
  have cD:(w.alloc (.cells #[.slice (some ⟨bd,od,none⟩) l.length cd] 26)).cell? ⟨w.heap.size,0,none⟩=some (.slice (some ⟨bd,od,none⟩) l.length cd):=by simp [go_sem]
  clear hin HO HV hHR hcut
  go_enter func89,ntmps89
  go_wp2_with fail
  refine (HHR.out _ hbD).mono ?_
  rintro e w1 ⟨rfl,bel⟩
  rw [HIN.out]
  have b1:=Zb bel hbD
  have hz1:=b1.size
  have hz2:w.heap.size+1≤w1.heap.size:=by have:=bel.size;simp at this;omega
  have cD:=Ec bel cD
  have d0:=Zz b1 (show bd < w.heap.size by omega) g0
  have d1:=Zz b1 (show bd < w.heap.size by omega) g1
  have d2:=Zz b1 (show bd < w.heap.size by omega) g2
  have d3:=Zz b1 (show bd < w.heap.size by omega) g3
  have d4:=Zz b1 (show bd < w.heap.size by omega) g4
  have d5:=Zz b1 (show bd < w.heap.size by omega) g5
  have d6:=Zz b1 (show bd < w.heap.size by omega) g6
  have d7:=Zz b1 (show bd < w.heap.size by omega) g7
  clear bel hbD g0 g1 g2 g3 g4 g5 g6 g7
  go_wp2_with fail
  have b2:Below w.heap.size w (w1.alloc (.cells #[.string name, .int .i64 kind, .int .i64 size, .bool little, .slice Ab bytes.length cb, .slice An names.length cn, .slice At tags.length ct, .slice Ak kids.length ck] 50)):=b1.alloc hz1 _
  have cD:=Ec (Below.allocW w1 (.cells #[.string name, .int .i64 kind, .int .i64 size, .bool little, .slice Ab bytes.length cb, .slice An names.length cn, .slice At tags.length ct, .slice Ak kids.length ck] 50) (Fu _)) cD
  have e0:(w1.alloc (.cells #[.string name, .int .i64 kind, .int .i64 size, .bool little, .slice Ab bytes.length cb, .slice An names.length cn, .slice At tags.length ct, .slice Ak kids.length ck] 50)).cell? ⟨w1.heap.size,0,none⟩=some (.string name):=by simp [go_sem]
  have e1:(w1.alloc (.cells #[.string name, .int .i64 kind, .int .i64 size, .bool little, .slice Ab bytes.length cb, .slice An names.length cn, .slice At tags.length ct, .slice Ak kids.length ck] 50)).cell? ⟨w1.heap.size,1,none⟩=some (.int .i64 kind):=by simp [go_sem]
  have e2:(w1.alloc (.cells #[.string name, .int .i64 kind, .int .i64 size, .bool little, .slice Ab bytes.length cb, .slice An names.length cn, .slice At tags.length ct, .slice Ak kids.length ck] 50)).cell? ⟨w1.heap.size,2,none⟩=some (.int .i64 size):=by simp [go_sem]
  have e3:(w1.alloc (.cells #[.string name, .int .i64 kind, .int .i64 size, .bool little, .slice Ab bytes.length cb, .slice An names.length cn, .slice At tags.length ct, .slice Ak kids.length ck] 50)).cell? ⟨w1.heap.size,3,none⟩=some (.bool little):=by simp [go_sem]
  have e4:(w1.alloc (.cells #[.string name, .int .i64 kind, .int .i64 size, .bool little, .slice Ab bytes.length cb, .slice An names.length cn, .slice At tags.length ct, .slice Ak kids.length ck] 50)).cell? ⟨w1.heap.size,4,none⟩=some (.slice Ab bytes.length cb):=by simp [go_sem]
  have e5:(w1.alloc (.cells #[.string name, .int .i64 kind, .int .i64 size, .bool little, .slice Ab bytes.length cb, .slice An names.length cn, .slice At tags.length ct, .slice Ak kids.length ck] 50)).cell? ⟨w1.heap.size,5,none⟩=some (.slice An names.length cn):=by simp [go_sem]
  have e6:(w1.alloc (.cells #[.string name, .int .i64 kind, .int .i64 size, .bool little, .slice Ab bytes.length cb, .slice An names.length cn, .slice At tags.length ct, .slice Ak kids.length ck] 50)).cell? ⟨w1.heap.size,6,none⟩=some (.slice At tags.length ct):=by simp [go_sem]
  have e7:(w1.alloc (.cells #[.string name, .int .i64 kind, .int .i64 size, .bool little, .slice Ab bytes.length cb, .slice An names.length cn, .slice At tags.length ct, .slice Ak kids.length ck] 50)).cell? ⟨w1.heap.size,7,none⟩=some (.slice Ak kids.length ck):=by simp [go_sem]
  have hz3:(w1.alloc (.cells #[.string name, .int .i64 kind, .int .i64 size, .bool little, .slice Ab bytes.length cb, .slice An names.length cn, .slice At tags.length ct, .slice Ak kids.length ck] 50)).heap.size=w1.heap.size+1:=by simp
  clear d0 d1 d2 d3 d4 d5 d6 d7
  generalize (w1.alloc (.cells #[.string name, .int .i64 kind, .int .i64 size, .bool little, .slice Ab bytes.length cb, .slice An names.length cn, .slice At tags.length ct, .slice Ak kids.length ck] 50))=W2 at*
  refine (Yp name _ hkn).mono ?_
  rintro e w3 ⟨rfl,bel⟩
  have b3:=Zb bel b2
  have hz4:=bel.size
  have cD:=Ec bel cD
  have e0:=Ec bel e0
  have e1:=Ec bel e1
  have e2:=Ec bel e2
  have e3:=Ec bel e3
  have e4:=Ec bel e4
  have e5:=Ec bel e5
  have e6:=Ec bel e6
  have e7:=Ec bel e7
  clear bel
  generalize hgb:w1.heap.size=gb at*
  clear hgb
  cases hn:Jc name
  ·have HX:=Fs (HV2.out.trans (show _=false by rw [hn];simp))
   clear hn HV2
   go_wp2
   go_ret
   exact ⟨Zd HX.out.symm,b3⟩
  have HV3:=Fs (HV2.out.trans (show _=(Jg (Xh D name) k && (Jg (Re kids (k:Int)) kids.length && (kd && (!little||kind==1)))) by rw [hn];simp))
  clear hn HV2
  cases hl:(!little||kind==1)
  ·have HX:=Fs (HV3.out.trans (show _=false by rw [hl];simp))
   cases little
   ·simp at hl
   have hkq:(kind !=1)=true:=by simpa [bne] using hl
   clear hl HV3
   go_wp2
   go_ret
   exact ⟨Zd HX.out.symm,b3⟩
  have HV4:=Fs (HV3.out.trans (show _=(Jg (Xh D name) k && (Jg (Re kids (k:Int)) kids.length && kd)) by rw [hl];simp))
  clear HV3
  have hgo:∀lt:Bool,lt=little→(lt=false∨(lt=true∧(kind !=1)=false)):=by
   rintro lt rfl
   cases lt
   ·exact .inl rfl
   ·exact .inr ⟨rfl,by simpa [bne] using hl⟩
  have hgo:=hgo little rfl
  clear hl
  have hcut:=HCUT.out
  rcases hgo with rfl|⟨rfl,hkq⟩
  all_goals
   go_wp2_with fail
   clear hcut
   try clear hkq
   have hs3:w.heap.size≤w3.heap.size:=b3.size
   have hs4:gb < w3.heap.size:=by omega
   go_loopw [37] (fun i wr=> ∃j:Nat,j≤k∧i= .int .i64 j∧Below w3.heap.size w3 wr∧Jg (Xh D name) j=true) (fun i _=> k - (intOf i).toNat)
   case atStart=> exact ⟨0,Eb _,rfl,Fv _ _,rfl⟩
   case round=>
    obtain ⟨j,hj,rfl,hb,hall⟩:=hrel
    have hbw:=b3.trans (hb.mono hs3)
    have hzr:=hb.size
    have HB:=Fs hb
    have HBW:=Fs hbw
    by_cases hlt:j < k
    ·obtain ⟨b,off,A1,c1,A2,c2,A3,c3,A4,c4,e,hbB2,g0,g1,g2,g3,g4,g5,g6,g7⟩:=HAL.out j (by omega)
     simp only [Option.some.injEq,Addr.mk.injEq,and_true] at e
     obtain ⟨rfl,rfl⟩:=e
     have hot:=HOT.out name j (by omega)
     have hno:=Vh (Xh D name) j k hlt
     have hst:=Xf (Xh D name) j hall
     have hjl:j < l.length:=by omega
     generalize l[j]=y at*
     have d0:=Zz hbw (show bd < w.heap.size by omega) g0
     have d1:=Zz hbw (show bd < w.heap.size by omega) g1
     have d2:=Zz hbw (show bd < w.heap.size by omega) g2
     have d3:=Zz hbw (show bd < w.heap.size by omega) g3
     have d4:=Zz hbw (show bd < w.heap.size by omega) g4
     have d5:=Zz hbw (show bd < w.heap.size by omega) g5
     have d6:=Zz hbw (show bd < w.heap.size by omega) g6
     have d7:=Zz hbw (show bd < w.heap.size by omega) g7
     have f0:=Ec (Below.allocW wr (.cells #[.string y.d.name, .int .i64 y.d.kind, .int .i64 y.d.size, .bool y.d.little, .slice A1 y.d.bytes.length c1, .slice A2 y.d.names.length c2, .slice A3 y.d.tags.length c3, .slice A4 y.d.kids.length c4] 50) (Fu _)) (Zz hb (show gb < w3.heap.size by omega) e0)
     have HW:=Fs (Zb (Below.allocW wr (.cells #[.string y.d.name, .int .i64 y.d.kind, .int .i64 y.d.size, .bool y.d.little, .slice A1 y.d.bytes.length c1, .slice A2 y.d.names.length c2, .slice A3 y.d.tags.length c3, .slice A4 y.d.kids.length c4] 50) (Fu _)) hbw)
     have HW3:=Fs (hb.trans (Below.allocW wr (.cells #[.string y.d.name, .int .i64 y.d.kind, .int .i64 y.d.size, .bool y.d.little, .slice A1 y.d.bytes.length c1, .slice A2 y.d.names.length c2, .slice A3 y.d.tags.length c3, .slice A4 y.d.kids.length c4] 50) hzr))
     clear g0 g1 g2 g3 g4 g5 g6 g7 hall hb hbw e0 e1 e2 e3 e4 e5 e6 e7 cD
     cases he:(y.d.name.toList==name.toList)
     ·have HX:=Fs (hst (by rw [hot,he];rfl))
      clear hst hno hot
      go_wp2
      go_roundw
      case rel=> exact ⟨j+1,by omega,by go_num,HW3.out,HX.out⟩
      case measure=> simp [intOf];omega
     ·have HX:=Fs (HV4.out.trans (show _=false by rw [hno (by rw [hot,he];rfl)];rfl))
      clear hst hno hot
      go_wp2
      go_ret
      exact ⟨Zd HX.out.symm,HW.out⟩
    ·have hjk:j=k:=by omega
     have HY:=Fs (HV4.out.trans (show _=(Jg (Re kids (k:Int)) kids.length && kd) by rw [←hjk,hall];rfl))
     have cD:=Zz hb (show w.heap.size < w3.heap.size by omega) cD
     have f0:=Zz hb (show gb < w3.heap.size by omega) e0
     have f1:=Zz hb (show gb < w3.heap.size by omega) e1
     have f2:=Zz hb (show gb < w3.heap.size by omega) e2
     have f3:=Zz hb (show gb < w3.heap.size by omega) e3
     have f4:=Zz hb (show gb < w3.heap.size by omega) e4
     have f5:=Zz hb (show gb < w3.heap.size by omega) e5
     have f6:=Zz hb (show gb < w3.heap.size by omega) e6
     have f7:=Zz hb (show gb < w3.heap.size by omega) e7
     clear hall hjk HV4 HOT HNM HAL e0 e1 e2 e3 e4 e5 e6 e7 hb
     go_wp2_with fail
     go_loop [50] (fun i=> ∃j:Nat,j≤kids.length∧i= .int .i64 j∧Jg (Re kids (k:Int)) j=true) (fun i=> kids.length - (intOf i).toNat)
     case atStart=> exact ⟨0,Eb _,rfl,rfl⟩
     case round=>
      obtain ⟨j,hj,rfl,hall⟩:=hrel
      by_cases hlt:j < kids.length
      ·obtain ⟨bk,ok,rfl,hbk,ck0⟩:=x4 j hlt
       have hck:=Zz hbw (show bk < w.heap.size by omega) ck0
       have hka:=Mi kids (k:Int) j hlt
       have hno:=Vh (Re kids (k:Int)) j kids.length hlt
       have hst:=Xf (Re kids (k:Int)) j hall
       generalize kids[j]=x at*
       clear ck0 x4 hall
       by_cases hx0:x < 0
       ·have HX:=Fs (HY.out.trans (show _=false by rw [hno (by rw [hka,Jl (by omega)])];rfl))
        clear hst hno hka
        go_wp2
        go_ret
        exact ⟨Zd HX.out.symm,HBW.out⟩
       by_cases hx1:x < k
       ·have HX:=Fs (hst (by rw [hka,Xp (by omega) (by omega)]))
        clear hst hno hka
        go_wp2
        go_round
        case rel=> exact ⟨j+1,by omega,by go_num,HX.out⟩
        case measure=> simp [intOf];omega
       ·have HX:=Fs (HY.out.trans (show _=false by rw [hno (by rw [hka,Jl (by omega)])];rfl))
        clear hst hno hka
        go_wp2
        go_ret
        exact ⟨Zd HX.out.symm,HBW.out⟩
      ·have hjk:j=kids.length:=by omega
       have HZ:=Fs (HY.out.trans (show _=kd by rw [←hjk,hall];rfl))
       clear hall hjk x4 HY
       go_wp2_with fail
       refine (HKK.out _ hbw).mono ?_
       rintro e w2 ⟨rfl,bel⟩
       have b2:=Zb bel hbw
       clear bel
       go_wp2
       go_ret
       exact ⟨Zd HZ.out.symm,b2⟩
theorem Hl (v:Value) (l:List RM) (B:Nat) (w:World) (h:Qz w B v l) (hB:B≤w.heap.size) (ok:∀r∈l,r.d.ok) (sm:∀r∈l,r.d.small 1048576):
  Calls prog 67 #[.agg #[v]] w fun e w'=> e= .returned (.bool (Yf (l.map RM.d)))∧Below w.heap.size w w':=by
 have hVR:∀W i,Below w.heap.size w W→Qa i→Calls prog 81 #[.agg #[v], .int .i64 i] W fun e w'=> e= .returned (.bool (Yj (l.map RM.d) i))∧Below W.heap.size W w':=fun W i hb hi=>
  Ox v l i B W (h.below (hb.mono hB)) (by have:=hb.size;omega) hi ok sm
 have HVR:=Fs hVR
 have HU:=Fs (show Yf (l.map RM.d)=(Jg (fun k:Nat=> Yj (l.map RM.d) k) l.length && Xs l.length 1 24) by unfold Yf;rw [List.length_map])
 obtain ⟨A,c,rfl,hc,hm, -⟩:=h.open_
 unfold maxLen at hm
 clear h hVR ok sm
 generalize l.map RM.d=D at*
 have hbD:=Below.allocW w (.cells #[.slice A l.length c] 26) (Fu _)
 have cD:(w.alloc (.cells #[.slice A l.length c] 26)).cell? ⟨w.heap.size,0,none⟩=some (.slice A l.length c):=by simp [go_sem]
 have hz:(w.alloc (.cells #[.slice A l.length c] 26)).heap.size=w.heap.size+1:=by simp
 go_enter func67,ntmps67
 go_wp2_with fail
 generalize (w.alloc (.cells #[.slice A l.length c] 26))=W0 at*
 go_loopw [3] (fun i wr=> ∃j:Nat,j≤l.length∧i= .int .i64 j∧Below W0.heap.size W0 wr∧Jg (fun k:Nat=> Yj D k) j=true) (fun i _=> l.length - (intOf i).toNat)
 case atStart=> exact ⟨0,Eb _,rfl,Fv _ _,rfl⟩
 case round=>
  obtain ⟨j,hj,rfl,hb,hall⟩:=hrel
  have cr:=Zz hb (show w.heap.size < W0.heap.size by omega) cD
  have hbw:=hbD.trans (hb.mono (by omega))
  have hsz:=hb.size
  by_cases hlt:j < l.length
  ·have hno:=Vh (fun k:Nat=> Yj D k) j l.length hlt
   have hst:=Xf (fun k:Nat=> Yj D k) j hall
   have hcall:=HVR.out wr j hbw ⟨by omega,by omega⟩
   (try simp only at hno hst)
   cases hv:Yj D j
   ·have HX:=Fs (HU.out.trans (show _=false by rw [hno hv];rfl))
    rw [hv] at hcall
    have HC:=Fs hcall
    have HB:=Fs hbw
    clear hno hst hv hcall hall hb hbw
    go_wp2_with fail
    refine HC.out.mono ?_
    rintro e w1 ⟨rfl,bel⟩
    have b1:=Zb bel HB.out
    clear bel
    go_wp2
    go_ret
    exact ⟨Zd HX.out.symm,b1⟩
   ·have HX:=Fs (hst hv)
    rw [hv] at hcall
    have HC:=Fs hcall
    have HB:=Fs hb
    clear hno hst hv hcall hall hb hbw
    go_wp2_with fail
    refine HC.out.mono ?_
    rintro e w1 ⟨rfl,bel⟩
    have b1:=HB.out.trans (bel.mono hsz)
    clear bel
    go_wp2
    go_roundw
    case rel=> exact ⟨j+1,by omega,by go_num,b1,HX.out⟩
    case measure=> simp [intOf];omega
  ·have hjk:j=l.length:=by omega
   have HX:=Fs (HU.out.trans (show _=Xs l.length 1 24 by rw [←hjk,hall];rfl))
   clear hjk hall
   go_wp2_with (go_at_call 30;refine (Qi _ _ _ _).mono ?_;rintro e w1 ⟨rfl,rfl⟩)
   go_ret
   exact ⟨Zd HX.out.symm,hbw⟩
theorem Ho (v:Value) (l:List RM) (B:Nat) (w:World) (h:Qz w B v l) (hB:B≤w.heap.size) (ok:∀r∈l,r.d.ok) (sm:∀r∈l,r.d.small 1048576):
  Calls prog 76 #[.agg #[v]] w fun e w'=> e= .returned (.bool (Yf (l.map RM.d)))∧Below w.heap.size w w':=by
 have hVR:∀W i,Below w.heap.size w W→Qa i→Calls prog 89 #[.agg #[v], .int .i64 i] W fun e w'=> e= .returned (.bool (Yj (l.map RM.d) i))∧Below W.heap.size W w':=fun W i hb hi=>
  Mj v l i B W (h.below (hb.mono hB)) (by have:=hb.size;omega) hi ok sm
 have HVR:=Fs hVR
 have HU:=Fs (show Yf (l.map RM.d)=(Jg (fun k:Nat=> Yj (l.map RM.d) k) l.length && Xs l.length 1 24) by unfold Yf;rw [List.length_map])
 obtain ⟨A,c,rfl,hc,hm, -⟩:=h.open_
 unfold maxLen at hm
 clear h hVR ok sm
 generalize l.map RM.d=D at*
 have hbD:=Below.allocW w (.cells #[.slice A l.length c] 26) (Fu _)
 have cD:(w.alloc (.cells #[.slice A l.length c] 26)).cell? ⟨w.heap.size,0,none⟩=some (.slice A l.length c):=by simp [go_sem]
 have hz:(w.alloc (.cells #[.slice A l.length c] 26)).heap.size=w.heap.size+1:=by simp
 cases hin:Xs l.length 1 24
 ·have HX:=Fs (HU.out.trans (show _=false by rw [hin];exact Bool.and_false _))
  have HE:=Fs hin
  clear hin HU
  go_enter func76,ntmps76
  go_wp2_with (go_at_call 26;refine (Zm _ _ _ _).mono ?_;rintro e w1 ⟨rfl,rfl⟩;rw [HE.out])
  go_ret
  exact ⟨Zd HX.out.symm,hbD⟩
 have HE:=Fs hin
 have HU2:=Fs (HU.out.trans (show _=Jg (fun k:Nat=> Yj D k) l.length by rw [hin];exact Bool.and_true _))
 clear hin HU
 go_enter func76,ntmps76
 go_wp2_with (go_at_call 26;refine (Zm _ _ _ _).mono ?_;rintro e w1 ⟨rfl,rfl⟩;rw [HE.out])
 generalize (w.alloc (.cells #[.slice A l.length c] 26))=W0 at*
 go_loopw [12] (fun i wr=> ∃j:Nat,j≤l.length∧i= .int .i64 j∧Below W0.heap.size W0 wr∧Jg (fun k:Nat=> Yj D k) j=true) (fun i _=> l.length - (intOf i).toNat)
 case atStart=> exact ⟨0,Eb _,rfl,Fv _ _,rfl⟩
 case round=>
  obtain ⟨j,hj,rfl,hb,hall⟩:=hrel
  have cr:=Zz hb (show w.heap.size < W0.heap.size by omega) cD
  have hbw:=hbD.trans (hb.mono (by omega))
  have hsz:=hb.size
  by_cases hlt:j < l.length
  ·have hno:=Vh (fun k:Nat=> Yj D k) j l.length hlt
   have hst:=Xf (fun k:Nat=> Yj D k) j hall
   have hcall:=HVR.out wr j hbw ⟨by omega,by omega⟩
   (try simp only at hno hst)
   cases hv:Yj D j
   ·have HX:=Fs (HU2.out.trans (hno hv))
    rw [hv] at hcall
    have HC:=Fs hcall
    have HB:=Fs hbw
    clear hno hst hv hcall hall hb hbw
    go_wp2_with fail
    refine HC.out.mono ?_
    rintro e w1 ⟨rfl,bel⟩
    have b1:=Zb bel HB.out
    clear bel
    go_wp2
    go_ret
    exact ⟨Zd HX.out.symm,b1⟩
   ·have HX:=Fs (hst hv)
    rw [hv] at hcall
    have HC:=Fs hcall
    have HB:=Fs hb
    clear hno hst hv hcall hall hb hbw
    go_wp2_with fail
    refine HC.out.mono ?_
    rintro e w1 ⟨rfl,bel⟩
    have b1:=HB.out.trans (bel.mono hsz)
    clear bel
    go_wp2
    go_roundw
    case rel=> exact ⟨j+1,by omega,by go_num,b1,HX.out⟩
    case measure=> simp [intOf];omega
  ·have hjk:j=l.length:=by omega
   have HX:=Fs (HU2.out.trans (show _=true by rw [←hjk,hall]))
   clear hjk hall
   go_wp2
   go_ret
   exact ⟨Zd HX.out.symm,hbw⟩
theorem Rg (v:Value) (l:List RM) (i:Int) (B:Nat) (w:World) (h:Qz w B v l) (hB:B≤w.heap.size) (ok:∀r∈l,r.d.ok) (sm:∀r∈l,r.d.small 1048576):
  Calls prog 44 #[.agg #[v], .int .i64 i] w fun e w'=> e= .returned (.bool (Qd (l.map RM.d) i))∧Below w.heap.size w w':=by
 have hV:∀W,Below w.heap.size w W→Calls prog 67 #[.agg #[v]] W fun e w'=> e= .returned (.bool (Yf (l.map RM.d)))∧Below W.heap.size W w':=fun W hb=>
  Hl v l B W (h.below (hb.mono hB)) (by have:=hb.size;omega) ok sm
 have HV:=Fs hV
 have HU:=Fs (show Qd (l.map RM.d) i=(Xs i 0 ((l.length:Int) - 1) && Yf (l.map RM.d)) by unfold Qd;rw [List.length_map])
 obtain ⟨A,c,rfl,hc,hm, -⟩:=h.open_
 unfold maxLen at hm
 clear h hV ok sm
 generalize l.map RM.d=D at*
 have hbD:=Below.allocW w (.cells #[.slice A l.length c] 26) (Fu _)
 cases hin:Xs i 0 ((l.length:Int) - 1)
 ·have HX:=Fs (HU.out.trans (show _=false by rw [hin];rfl))
  have HE:=Fs hin
  clear hin HU
  go_enter func44,ntmps44
  go_wp2_with (go_at_call 30;refine (Qi _ _ _ _).mono ?_;rintro e w1 ⟨rfl,rfl⟩;rw [HE.out])
  go_ret
  exact ⟨Zd HX.out.symm,hbD⟩
 ·have HX:=Fs (HU.out.trans (show _=Yf D by rw [hin];rfl))
  have HE:=Fs hin
  clear hin HU
  go_enter func44,ntmps44
  go_wp2_with (go_at_call 30;refine (Qi _ _ _ _).mono ?_;rintro e w1 ⟨rfl,rfl⟩;rw [HE.out])
  refine (HV.out _ hbD).mono ?_
  rintro e w1 ⟨rfl,bel⟩
  have b1:=Zb bel hbD
  clear bel
  go_wp2
  go_ret
  exact ⟨Zd HX.out.symm,b1⟩
theorem Rl (v:Value) (l:List RM) (i:Int) (B:Nat) (w:World) (h:Qz w B v l) (hB:B≤w.heap.size) (ok:∀r∈l,r.d.ok) (sm:∀r∈l,r.d.small 1048576):
  Calls prog 60 #[.agg #[v], .int .i64 i] w fun e w'=> e= .returned (.bool (Qd (l.map RM.d) i))∧Below w.heap.size w w':=by
 have hV:∀W,Below w.heap.size w W→Calls prog 76 #[.agg #[v]] W fun e w'=> e= .returned (.bool (Yf (l.map RM.d)))∧Below W.heap.size W w':=fun W hb=>
  Ho v l B W (h.below (hb.mono hB)) (by have:=hb.size;omega) ok sm
 have hR:∀W,Below w.heap.size w W→Calls prog 77 #[.agg #[v], .int .i64 i] W fun e w'=> e= .returned (.bool (Xs i 0 ((l.length:Int) - 1)))∧Below W.heap.size W w':=fun W hb=>
  Ph v l i B W (h.below (hb.mono hB))
 have HV:=Fs hV
 have HR:=Fs hR
 have HU:=Fs (show Qd (l.map RM.d) i=(Xs i 0 ((l.length:Int) - 1) && Yf (l.map RM.d)) by unfold Qd;rw [List.length_map])
 obtain ⟨A,c,rfl,hc,hm, -⟩:=h.open_
 unfold maxLen at hm
 clear h hV ok sm hR
 generalize l.map RM.d=D at*
 have hbD:=Below.allocW w (.cells #[.slice A l.length c] 26) (Fu _)
 have cD:(w.alloc (.cells #[.slice A l.length c] 26)).cell? ⟨w.heap.size,0,none⟩=some (.slice A l.length c):=by simp [go_sem]
 cases hd:Yf D
 ·have HX:=Fs (HU.out.trans (show _=false by rw [hd];exact Bool.and_false _))
  rw [hd] at HV
  clear hd HU
  go_enter func60,ntmps60
  go_wp2_with fail
  refine (HV.out _ hbD).mono ?_
  rintro e w1 ⟨rfl,bel⟩
  have b1:=Zb bel hbD
  clear bel
  go_wp2
  go_ret
  exact ⟨Zd HX.out.symm,b1⟩
 ·have HX:=Fs (HU.out.trans (show _=Xs i 0 ((l.length:Int) - 1) by rw [hd];exact Bool.and_true _))
  rw [hd] at HV
  clear hd HU
  go_enter func60,ntmps60
  go_wp2_with fail
  refine (HV.out _ hbD).mono ?_
  rintro e w1 ⟨rfl,bel⟩
  have b1:=Zb bel hbD
  have c1:=Ec bel cD
  clear bel
  go_wp2_with fail
  refine (HR.out _ b1).mono ?_
  rintro e w2 ⟨rfl,bel⟩
  have b2:=Zb bel b1
  clear bel
  go_wp2
  go_ret
  exact ⟨Zd HX.out.symm,b2⟩
structure okD (D:List Zi):Prop where
 ok:∀r∈D,r.ok
 sm:∀r∈D,r.small 1048576
theorem okD.l {l:List RM} (h:okD (l.map RM.d)):(∀r∈l,r.d.ok)∧∀r∈l,r.d.small 1048576:=⟨fun r hr=> h.ok _ (List.mem_map_of_mem hr),fun r hr=> h.sm _ (List.mem_map_of_mem hr)⟩
theorem OwD.slice {D:List Zi} {lo hi:Nat} {w:World} {v:Value} (h:OwD D lo hi w v):∃A c,v= .slice A D.length c:=by
 obtain ⟨l,m,rfl,h2,_⟩:=h
 obtain ⟨A,c,e⟩:=Gc h2
 exact ⟨A,c,by rw [e,List.length_map]⟩
theorem Vt {D:List Zi} {i:Int} (h:Qd D i=true):0≤i∧i < D.length:=by
 unfold Qd at h
 rw [Bool.and_eq_true] at h
 have:=Jv.1 h.1
 omega
theorem Ua {D:List Zi} {i:Int} (h:Qd D i=true):Yf D=true:=by
 unfold Qd at h
 rw [Bool.and_eq_true] at h
 exact h.2
theorem Zw {w:World} {B:Nat} {A:Option Addr} {c:Nat} {l:List RM} (h:Qz w B (.slice A l.length c) l) (k:Nat) (hk:k < l.length):
  ∃b off A1 c1 A2 c2 A3 c3 A4 c4,A=some ⟨b,off,none⟩∧b < B∧l[k].vb= .slice A1 l[k].d.bytes.length c1∧l[k].vn= .slice A2 l[k].d.names.length c2∧l[k].vt= .slice A3 l[k].d.tags.length c3∧l[k].vk= .slice A4 l[k].d.kids.length c4∧
   l[k].d.bytes.length≤maxLen∧l[k].d.names.length≤maxLen∧l[k].d.tags.length≤maxLen∧l[k].d.kids.length≤maxLen∧
   ∀W:World,(∀b o,b < B→W.cell? ⟨b,o,none⟩=w.cell? ⟨b,o,none⟩)→W.cell? ⟨b,off+k*8,none⟩=some (.string l[k].d.name)∧W.cell? ⟨b,off+k*8+1,none⟩=some (.int .i64 l[k].d.kind)∧
   W.cell? ⟨b,off+k*8+2,none⟩=some (.int .i64 l[k].d.size)∧W.cell? ⟨b,off+k*8+3,none⟩=some (.bool l[k].d.little)∧W.cell? ⟨b,off+k*8+4,none⟩=some (.slice A1 l[k].d.bytes.length c1)∧
   W.cell? ⟨b,off+k*8+5,none⟩=some (.slice A2 l[k].d.names.length c2)∧W.cell? ⟨b,off+k*8+6,none⟩=some (.slice A3 l[k].d.tags.length c3)∧W.cell? ⟨b,off+k*8+7,none⟩=some (.slice A4 l[k].d.kids.length c4):=by
 obtain ⟨A0,c0,e0,hc,hm,hcell⟩:=h.open_
 simp only [Value.slice.injEq] at e0
 obtain ⟨rfl,_,rfl⟩:=e0
 obtain ⟨b,off,e,hb,x0,x1,x2,x3,x4,x5,x6,x7⟩:=hcell k hk
 have hr:=h.2 l[k] (Fw hk)
 obtain ⟨A1,c1,y1,z1,z2, -⟩:=hr.b.open_
 obtain ⟨A2,c2,y2,z3,z4, -⟩:=hr.n.one
 obtain ⟨A3,c3,y3,z5,z6, -⟩:=hr.t.one
 obtain ⟨A4,c4,y4,z7,z8, -⟩:=hr.k.one
 rw [y1] at x4
 rw [y2] at x5
 rw [y3] at x6
 rw [y4] at x7
 refine ⟨b,off,A1,c1,A2,c2,A3,c3,A4,c4,e,hb,y1,y2,y3,y4,by omega,by omega,by omega,by omega,fun W hW=> ?_⟩
 exact ⟨(hW _ _ hb).trans x0,(hW _ _ hb).trans x1,(hW _ _ hb).trans x2,(hW _ _ hb).trans x3,(hW _ _ hb).trans x4,(hW _ _ hb).trans x5,(hW _ _ hb).trans x6,(hW _ _ hb).trans x7⟩
theorem Zu {B:Nat} {w W:World} (h:Below w.heap.size w W) (hB:B≤w.heap.size):∀b o,b < B→W.cell? ⟨b,o,none⟩=w.cell? ⟨b,o,none⟩:=fun b o hb=> h.cell (p:=⟨b,o,none⟩) (by show b < _;omega)
def Jt (r:Zi) (i:Int):ByteArray:=
 if r.kind=5 then Tg (Ye i)
 else if r.kind=6∧i < r.names.length then r.names.getD i.toNat ⟨#[]⟩
 else if 0 < i then ⟨#[]⟩
 else if r.kind=7 then ⟨#[42]⟩ else if r.kind=8 then ⟨#[63]⟩ else if r.kind=9 then ⟨#[43]⟩ else ⟨#[]⟩
def Of (D:List Zi) (rule i:Int):ByteArray:=
 if Qd D rule∧0≤i then (match Jo D rule with|none=> ⟨#[]⟩|some r=> Jt r i) else ⟨#[]⟩
theorem Hy {D:List Zi} {rule i:Int} (h:Qd D rule=false∨i < 0):Of D rule i=⟨#[]⟩:=by
 unfold Of
 rw [if_neg]
 rintro ⟨a,b⟩
 rcases h with h|h
 ·rw [h] at a;exact Bool.false_ne_true a
 ·omega
theorem Ga {D:List Zi} {rule i:Int} (h:Qd D rule=true) (hi:0≤i):∃(k:Nat) (hk:k < D.length),rule=k∧Of D rule i=Jt D[k] i:=by
 obtain ⟨h0,h1⟩:=Vt h
 obtain ⟨k,hk,e,hat⟩:=Yd h0 h1
 refine ⟨k,hk,e,?_⟩
 unfold Of
 rw [if_pos ⟨h,hi⟩,hat]
theorem Ru {r:Zi} {i:Int} (h:r.kind=5):Jt r i=Tg (Ye i):=by unfold Jt;rw [if_pos h]
theorem Pp {r:Zi} {k:Nat} (h:r.kind=6) (hk:k < r.names.length):Jt r k=r.names[k]:=by
 unfold Jt
 rw [if_neg (by omega),if_pos ⟨h,by omega⟩,Int.toNat_natCast,List.getD_eq_getElem?_getD,List.getElem?_eq_getElem hk]
 rfl
theorem Hx {r:Zi} {i:Int} (h5:r.kind≠5) (h6:¬(r.kind=6∧i < r.names.length)) (hi:0 < i):Jt r i=⟨#[]⟩:=by unfold Jt;rw [if_neg h5,if_neg h6,if_pos hi]
theorem Ia {r:Zi} (h5:r.kind≠5) (h6:¬(r.kind=6∧(0:Int) < r.names.length)):Jt r 0=if r.kind=7 then ⟨#[42]⟩ else if r.kind=8 then ⟨#[63]⟩ else if r.kind=9 then ⟨#[43]⟩ else ⟨#[]⟩:=by
 unfold Jt;rw [if_neg h5,if_neg h6,if_neg (by omega)]
theorem Ly (r:RM) (i:Int) (B:Nat) (w:World) (h:r.rd w B) (hB:B≤w.heap.size) (hi0:0≤i) (hi1:i≤9223372036854775807) (sm:r.d.small 1048576):
  Calls prog 65 #[Ja r, .int .i64 i] w fun e w'=> e= .returned (.string (Jt r.d i))∧Below w.heap.size w w':=by
 have hF:∀W,Below w.heap.size w W→Calls prog 70 #[.int .i64 i] W fun e w'=> e= .returned (.string (Tg (Ye i)))∧Below W.heap.size W w':=fun W h=> Qf i W ⟨by omega,hi1⟩
 have HF:=Fs hF
 clear hF
 obtain ⟨Ab,cb,eb, -⟩:=h.b.open_
 obtain ⟨An,cn,en,hcn,hmn,hcell⟩:=h.n.one
 obtain ⟨At,ct,et, -⟩:=h.t.one
 obtain ⟨Ak,ck,ek, -⟩:=h.k.one
 have hnm:=sm.names
 clear h
 unfold Ja
 rw [eb,en,et,ek]
 clear eb en et ek sm
 generalize r.d=d at*
 obtain ⟨cs,hcs⟩:∃cs:Array Value,cs= #[.string d.name, .int .i64 d.kind, .int .i64 d.size, .bool d.little, .slice Ab d.bytes.length cb, .slice An d.names.length cn, .slice At d.tags.length ct, .slice Ak d.kids.length ck]:=⟨_,rfl⟩
 have hbD:=Below.allocW w (.cells cs 50) (Fu _)
 subst hcs
 by_cases q5:d.kind=5
 ·have HX:=Fs (Ru (i:=i) q5)
  rw [q5] at hbD ⊢
  clear hcell q5
  go_enter func65,ntmps65
  go_wp2_with fail
  refine (HF.out _ hbD).mono ?_
  rintro e w1 ⟨rfl,bel⟩
  have HB:=Fs (Zb bel hbD)
  clear bel hbD
  go_wp2
  go_ret
  exact ⟨Jd HX.out.symm,HB.out⟩
 have f5:(d.kind==5)=false:=beq_eq_false_iff_ne.2 q5
 by_cases q6:d.kind=6∧i < d.names.length
 ·obtain ⟨q6,q6'⟩:=q6
  obtain ⟨k,rfl⟩:=Int.eq_ofNat_of_zero_le hi0
  have hk:k < d.names.length:=by omega
  have HX:=Fs (Pp q6 hk)
  obtain ⟨b,off,rfl,hbB,hc0⟩:=hcell k hk
  have hd0:=(hbD.mono hB).cell (p:=⟨b,off+k,none⟩) hbB|>.trans hc0
  rw [q6] at hbD hd0 ⊢
  clear hcell q5 f5 q6 hc0 HF
  go_enter func65,ntmps65
  go_wp2
  go_ret
  exact ⟨Jd HX.out.symm,hbD⟩
 have HD:=Fs hcell
 clear hcell HF HD
 by_cases hz:0 < i
 ·have HX:=Fs (Hx q5 q6 hz)
  have z1:(i==0)=false:=beq_eq_false_iff_ne.2 (by omega)
  by_cases r6:d.kind=6
  ·have hge:(d.names.length:Int)≤i:=by omega
   rw [r6] at hbD ⊢
   clear q5 f5 q6 r6
   go_enter func65,ntmps65
   go_wp2
   go_ret
   exact ⟨Jd HX.out.symm,hbD⟩
  ·have f6:(d.kind==6)=false:=beq_eq_false_iff_ne.2 r6
   have HQ:=Fs q6
   clear q5 q6 r6
   by_cases r7:d.kind=7
   ·rw [r7] at hbD ⊢;clear r7 f5 f6;go_enter func65,ntmps65;go_wp2;go_ret;exact ⟨Jd HX.out.symm,hbD⟩
   by_cases r8:d.kind=8
   ·rw [r8] at hbD ⊢;clear r7 r8 f5 f6;go_enter func65,ntmps65;go_wp2;go_ret;exact ⟨Jd HX.out.symm,hbD⟩
   by_cases r9:d.kind=9
   ·rw [r9] at hbD ⊢;clear r7 r8 r9 f5 f6;go_enter func65,ntmps65;go_wp2;go_ret;exact ⟨Jd HX.out.symm,hbD⟩
   have f7:(d.kind==7)=false:=beq_eq_false_iff_ne.2 r7
   have f8:(d.kind==8)=false:=beq_eq_false_iff_ne.2 r8
   have f9:(d.kind==9)=false:=beq_eq_false_iff_ne.2 r9
   clear r7 r8 r9
   go_enter func65,ntmps65
   go_wp2
   go_ret
   exact ⟨Jd HX.out.symm,hbD⟩
 ·obtain rfl:i=0:=by omega
  have HX:=Fs (Ia q5 q6)
  by_cases r6:d.kind=6
  ·have hge:(d.names.length:Int)=0:=by omega
   have hX2:=HX.out.trans (by rw [if_neg (by omega),if_neg (by omega),if_neg (by omega)])
   have HX2:=Fs hX2
   have hge':d.names.length=0:=by omega
   clear hX2 HX
   rw [r6,hge'] at hbD
   rw [r6,hge']
   clear q5 f5 q6 r6 hge hnm
   go_enter func65,ntmps65
   go_wp2
   go_ret
   exact ⟨Jd HX2.out.symm,hbD⟩
  ·have f6:(d.kind==6)=false:=beq_eq_false_iff_ne.2 r6
   clear q5 q6 r6
   by_cases r7:d.kind=7
   ·have HY:=Fs (HX.out.trans (if_pos r7))
    rw [r7] at hbD ⊢;clear r7 f5 f6;go_enter func65,ntmps65;go_wp2;go_ret;exact ⟨Jd HY.out.symm,hbD⟩
   by_cases r8:d.kind=8
   ·have HY:=Fs (HX.out.trans ((if_neg r7).trans (if_pos r8)))
    rw [r8] at hbD ⊢;clear r7 r8 f5 f6;go_enter func65,ntmps65;go_wp2;go_ret;exact ⟨Jd HY.out.symm,hbD⟩
   by_cases r9:d.kind=9
   ·have HY:=Fs (HX.out.trans ((if_neg r7).trans ((if_neg r8).trans (if_pos r9))))
    rw [r9] at hbD ⊢;clear r7 r8 r9 f5 f6;go_enter func65,ntmps65;go_wp2;go_ret;exact ⟨Jd HY.out.symm,hbD⟩
   have HY:=Fs (HX.out.trans ((if_neg r7).trans ((if_neg r8).trans (if_neg r9))))
   have f7:(d.kind==7)=false:=beq_eq_false_iff_ne.2 r7
   have f8:(d.kind==8)=false:=beq_eq_false_iff_ne.2 r8
   have f9:(d.kind==9)=false:=beq_eq_false_iff_ne.2 r9
   clear r7 r8 r9
   go_enter func65,ntmps65
   go_wp2
   go_ret
   exact ⟨Jd HY.out.symm,hbD⟩
theorem Iu (v:Value) (l:List RM) (i j:Int) (B:Nat) (w:World) (h:Qz w B v l) (hB:B≤w.heap.size) (ok:∀r∈l,r.d.ok) (sm:∀r∈l,r.d.small 1048576) (hj:Qa j) (ht:Tab w):
  Calls prog 88 #[.agg #[v], .int .i64 i, .int .i64 j] w fun e w'=> e= .returned (.string (Of (l.map RM.d) i j))∧Below w.heap.size w w':=by
 have hK:∀W,Below w.heap.size w W→Calls prog 60 #[.agg #[v], .int .i64 i] W fun e w'=> e= .returned (.bool (Qd (l.map RM.d) i))∧Below W.heap.size W w':=fun W hb=>
  Rl v l i B W (h.below (hb.mono hB)) (by have:=hb.size;omega) ok sm
 have hF:∀W,Below w.heap.size w W→Calls prog 95 #[.int .i64 j] W fun e w'=> e= .returned (.string (Tg (Ye j)))∧Below W.heap.size W w':=fun W h=> Mo j W hj (Pb ht h)
 have HF:=Fs hF
 clear hF ht
 obtain ⟨A,c,rfl,hc,hm, -⟩:=h.open_
 unfold maxLen at hm
 have hbD:=Below.allocW w (.cells #[.slice A l.length c] 26) (Fu _)
 have cD:(w.alloc (.cells #[.slice A l.length c] 26)).cell? ⟨w.heap.size,0,none⟩=some (.slice A l.length c):=by simp [go_sem]
 cases hk:Qd (l.map RM.d) i
 ·have HX:=Fs (Hy (i:=j) (.inl hk))
  rw [hk] at hK
  have HK:=Fs hK
  clear hK hk h
  go_enter func88,ntmps88
  go_wp2_with fail
  refine (HK.out _ hbD).mono ?_
  rintro e w1 ⟨rfl,bel⟩
  have b1:=Zb bel hbD
  clear bel
  go_wp2
  go_ret
  exact ⟨Jd HX.out.symm,b1⟩
 by_cases hj0:j < 0
 ·have HX:=Fs (Hy (D:=l.map RM.d) (rule:=i) (.inr hj0))
  rw [hk] at hK
  have HK:=Fs hK
  clear hK hk h
  go_enter func88,ntmps88
  go_wp2_with fail
  refine (HK.out _ hbD).mono ?_
  rintro e w1 ⟨rfl,bel⟩
  have b1:=Zb bel hbD
  clear bel
  go_wp2
  go_ret
  exact ⟨Jd HX.out.symm,b1⟩
 ·obtain ⟨k,hkl,rfl,hat⟩:=Ga hk (by omega:0≤j)
  have hkl:k < l.length:=by simpa using hkl
  rw [List.getElem_map] at hat
  have HX:=Fs hat
  rw [hk] at hK
  have HK:=Fs hK
  have hsmk:=(sm l[k] (Fw hkl)).names
  obtain ⟨An,cn,en,hcn,hmn,hnc⟩:=(h.2 l[k] (Fw hkl)).n.one
  obtain ⟨b,off,A1,c1,A2,c2,A3,c3,A4,c4,rfl,hbB,e1,e2,e3,e4,m1,m2,m3,m4,hcell⟩:=Zw h k hkl
  rw [e2] at en
  simp only [Value.slice.injEq] at en
  obtain ⟨rfl, -,rfl⟩:=en
  have HC:=Fs hcell
  have HN:=Fs hnc
  clear hK hk h hat hcell m1 m2 m3 m4 e1 e2 e3 e4 hnc ok sm
  generalize l[k]=r at*
  generalize r.d=d at*
  go_enter func88,ntmps88
  go_wp2_with fail
  refine (HK.out _ hbD).mono ?_
  rintro e w1 ⟨rfl,bel⟩
  have b1:=Zb bel hbD
  have b2:=b1.alloc b1.size (.cells #[.string d.name, .int .i64 d.kind, .int .i64 d.size, .bool d.little, .slice A1 d.bytes.length c1, .slice A2 d.names.length c2, .slice A3 d.tags.length c3, .slice A4 d.kids.length c4] 50)
  have cE:=Ec bel cD
  obtain ⟨x0,x1,x2,x3,x4,x5,x6,x7⟩:=HC.out w1 (Zu b1 hB)
  clear bel cD
  by_cases q5:d.kind=5
  ·have HY:=Fs (HX.out.trans (Ru q5))
   rw [q5] at x1 b2
   clear q5
   go_wp2_with fail
   refine (HF.out _ b2).mono ?_
   rintro e w2 ⟨rfl,bel2⟩
   have b3:=Zb bel2 b2
   clear bel2 b2 b1 x0 x1 x2 x3 x4 x5 x6 x7
   go_wp2
   go_ret
   exact ⟨Jd HY.out.symm,b3⟩
  have f5:(d.kind==5)=false:=beq_eq_false_iff_ne.2 q5
  by_cases q6:d.kind=6∧j < d.names.length
  ·obtain ⟨q6,q6'⟩:=q6
   obtain ⟨n,rfl⟩:=Int.eq_ofNat_of_zero_le (by omega:0≤j)
   have hn:n < d.names.length:=by omega
   have HY:=Fs (HX.out.trans (Pp q6 hn))
   obtain ⟨b',off',rfl,hbB',hc0⟩:=HN.out n hn
   have hd0:=(b2.mono hB).cell (p:=⟨b',off'+n,none⟩) hbB'|>.trans hc0
   rw [q6] at x1 b2 hd0
   clear q5 f5 q6 hc0 HF
   go_wp2
   go_ret
   exact ⟨Jd HY.out.symm,b2⟩
  clear HN HF
  by_cases hz:0 < j
  ·have HY:=Fs (HX.out.trans (Hx q5 q6 hz))
   by_cases r6:d.kind=6
   ·have hge:(d.names.length:Int)≤j:=by omega
    rw [r6] at b2 x1
    clear q5 f5 q6 r6
    go_wp2
    go_ret
    exact ⟨Jd HY.out.symm,b2⟩
   ·have f6:(d.kind==6)=false:=beq_eq_false_iff_ne.2 r6
    clear q5 q6 r6
    go_wp2
    go_ret
    exact ⟨Jd HY.out.symm,b2⟩
  ·obtain rfl:j=0:=by omega
   have HX0:=Fs (HX.out.trans (Ia q5 q6))
   by_cases r6:d.kind=6
   ·have hX2:=HX0.out.trans (by rw [if_neg (by omega),if_neg (by omega),if_neg (by omega)])
    have HX2:=Fs hX2
    have hge':d.names.length=0:=by omega
    clear hX2 HX HX0
    rw [r6,hge'] at b2
    rw [r6] at x1
    rw [hge'] at x5
    clear q5 f5 q6 r6
    go_wp2
    go_ret
    exact ⟨Jd HX2.out.symm,b2⟩
   ·have f6:(d.kind==6)=false:=beq_eq_false_iff_ne.2 r6
    clear q5 q6 r6 HX
    by_cases r7:d.kind=7
    ·have HY:=Fs (HX0.out.trans (if_pos r7))
     rw [r7] at b2 x1;clear r7 f5 f6;go_wp2;go_ret;exact ⟨Jd HY.out.symm,b2⟩
    by_cases r8:d.kind=8
    ·have HY:=Fs (HX0.out.trans ((if_neg r7).trans (if_pos r8)))
     rw [r8] at b2 x1;clear r7 r8 f5 f6;go_wp2;go_ret;exact ⟨Jd HY.out.symm,b2⟩
    by_cases r9:d.kind=9
    ·have HY:=Fs (HX0.out.trans ((if_neg r7).trans ((if_neg r8).trans (if_pos r9))))
     rw [r9] at b2 x1;clear r7 r8 r9 f5 f6;go_wp2;go_ret;exact ⟨Jd HY.out.symm,b2⟩
    have HY:=Fs (HX0.out.trans ((if_neg r7).trans ((if_neg r8).trans (if_neg r9))))
    have f7:(d.kind==7)=false:=beq_eq_false_iff_ne.2 r7
    have f8:(d.kind==8)=false:=beq_eq_false_iff_ne.2 r8
    have f9:(d.kind==9)=false:=beq_eq_false_iff_ne.2 r9
    clear r7 r8 r9
    go_wp2
    go_ret
    exact ⟨Jd HY.out.symm,b2⟩
def Ys (p:Nat→Bool):Nat→Int
 |0=> -1
 |k+1=> if 0≤Ys p k then Ys p k else if p k then k else -1
theorem Xd {p:Nat→Bool}:∀{n:Nat},(∀k,k < n→p k=false)→Ys p n= -1
 |0,_=> rfl
 |n+1,h=> by
  rw [Ys,Xd (n:=n) fun k hk=> h k (by omega),if_neg (by omega),h n (by omega)];rfl
theorem Vp {p:Nat→Bool}:∀{n k:Nat},k < n→p k=true→(∀j,j < k→p j=false)→Ys p n=k
 |0,k,h,_,_=> by omega
 |n+1,k,h,hp,hj=> by
  rw [Ys]
  by_cases e:k=n
  ·subst e
   rw [Xd hj,if_neg (by omega),if_pos hp]
  ·rw [Vp (n:=n) (by omega) hp hj,if_pos (by omega)]
def Hq (t s:ByteArray):Bool:= !t.toList.isEmpty && t.toList==s.toList
theorem Mp {t s:ByteArray}:Hq t s=true↔t.data.toList≠ []∧t.data.toList=s.data.toList:=by
 unfold Hq
 rw [Lib.toList_data,Lib.toList_data,Bool.and_eq_true,beq_iff_eq,Bool.not_eq_true',List.isEmpty_eq_false_iff]
theorem Uq {t s:ByteArray} (h:t.data.toList= []∨t.data.toList≠s.data.toList):Hq t s=false:=by
 cases hx:Hq t s
 ·rfl
 ·obtain ⟨a,b⟩:=Mp.1 hx
  rcases h with h|h
  ·exact absurd h a
  ·exact absurd b h
def Pz (r:Zi) (m:Nat) (s:ByteArray):Int:=Ys (fun i=> Hq (Jt r i) s) m
def Qy (D:List Zi) (rule:Int) (m:Nat) (s:ByteArray):Int:=
 if Qd D rule then (match Jo D rule with|none=> -1|some r=> Pz r m s) else -1
theorem Kc {D:List Zi} {rule:Int} {m:Nat} {s:ByteArray} (h:Qd D rule=false):Qy D rule m s= -1:=by
 unfold Qy;rw [h];rfl
theorem Ke {D:List Zi} {rule:Int} (h:Qd D rule=true):∃(k:Nat) (hk:k < D.length),rule=k∧∀m s,Qy D rule m s=Pz D[k] m s:=by
 obtain ⟨h0,h1⟩:=Vt h
 obtain ⟨k,hk,e,hat⟩:=Yd h0 h1
 refine ⟨k,hk,e,fun m s=> ?_⟩
 unfold Qy
 rw [if_pos h,hat]
theorem folR_bd (r:Zi) (m:Nat) (s:ByteArray):Pz r m s= -1∨∃k:Nat,k < m∧Pz r m s=k:=by
 unfold Pz
 induction m with
 |zero=> exact .inl rfl
 |succ m ih=>
  rw [Ys]
  rcases ih with e|⟨k,hk,e⟩
  ·rw [e,if_neg (by omega)]
   split
   ·exact .inr ⟨m,by omega,rfl⟩
   ·exact .inl rfl
  ·rw [e,if_pos (by omega)]
   exact .inr ⟨k,by omega,rfl⟩
theorem Om (n:Nat) (h:n≤1000000000000):Jf (Ye n)=true∧Yg (Ye n)=n:=by
 by_cases h0:n=0
 ·subst h0
  decide
 ·have e:Ye (n:Nat)=Ty n:=by unfold Ye;rw [if_neg (by omega),if_neg (by omega),Int.natAbs_natCast]
  rw [e]
  have hv:=valD_digs n
  refine ⟨?_,hv⟩
  have hl:=Pi n 13 (by omega)
  obtain ⟨c,l,hd,_⟩:=Gs n h0
  rw [Li (Ty n) (by simp only [Xk,List.all_eq_true];exact digs_all n) (by rw [hd];simp) hl (by rw [hv];exact h),hv,e]
  exact Fy rfl
theorem fol_5_no {r:Zi} {m:Nat} {s:ByteArray} (h:r.kind=5) (hm:m≤1048576) (hn:Jf s.data.toList=false):Pz r m s= -1:=by
 refine Xd fun k hk=> ?_
 rw [Ru h]
 refine Uq (.inr fun e=> ?_)
 rw [Rm] at e
 rw [←e,(Om k (by omega)).1] at hn
 cases hn
theorem fol_5_ge {r:Zi} {m:Nat} {s:ByteArray} (h:r.kind=5) (hm:m≤1048576) (hn:m≤Yg s.data.toList):Pz r m s= -1:=by
 refine Xd fun k hk=> ?_
 rw [Ru h]
 refine Uq (.inr fun e=> ?_)
 rw [Rm] at e
 have:=(Om k (by omega)).2
 rw [e] at this
 omega
theorem fol_5_at {r:Zi} {m:Nat} {s:ByteArray} (h:r.kind=5) (hm:m≤1048576) (hi:Jf s.data.toList=true) (hn:Yg s.data.toList < m):Pz r m s=(Yg s.data.toList:Nat):=by
 refine Vp hn ?_ fun k hk=> ?_
 ·rw [Ru h]
  refine Mp.2 ?_
  rw [Rm,(Ol _ hi).1]
  refine ⟨fun e=> ?_,rfl⟩
  rw [e] at hi
  exact absurd hi (by decide)
 ·rw [Ru h]
  refine Uq (.inr fun e=> ?_)
  rw [Rm] at e
  have:=(Om k (by omega)).2
  rw [e] at this
  omega
theorem stepR_6' {r:Zi} {k:Nat} (h:r.kind=6) (hk:r.names.length≤k):(Jt r k).data.toList= []:=by
 unfold Jt
 rw [if_neg (by omega),if_neg (by omega)]
 split
 ·rfl
 ·rw [if_neg (by omega),if_neg (by omega),if_neg (by omega)]
theorem stepR_0' {r:Zi} {k:Nat} (h5:r.kind≠5) (h6:r.kind≠6) (hk:0 < k):(Jt r k).data.toList= []:=by
 unfold Jt
 rw [if_neg h5,if_neg (by omega),if_pos (by omega)]
theorem Gn {r:Zi} {m:Nat} {s:ByteArray} (h:s.data.toList= []):Pz r m s= -1:=
 Xd fun k _=> by
  by_cases e:(Jt r k).data.toList= []
  ·exact Uq (.inl e)
  ·exact Uq (.inr (by rw [h];exact e))
theorem fol_6_no {r:Zi} {m:Nat} {s:ByteArray} (h:r.kind=6) (hn:∀k (hk:k < r.names.length),k < m→r.names[k].data.toList≠s.data.toList):Pz r m s= -1:=by
 refine Xd fun k hk=> ?_
 by_cases hl:k < r.names.length
 ·rw [Pp h hl]
  exact Uq (.inr (hn k hl hk))
 ·exact Uq (.inl (stepR_6' h (by omega)))
theorem fol_6_at {r:Zi} {m j:Nat} {s:ByteArray} (h:r.kind=6) (hj:j < r.names.length) (hm:j < m) (he:r.names[j].data.toList=s.data.toList) (hs:s.data.toList≠ [])
  (hn:∀k (hk:k < j),(r.names[k]'(by omega)).data.toList≠s.data.toList):Pz r m s=j:=by
 refine Vp hm ?_ fun k hk=> ?_
 ·rw [Pp h hj]
  exact Mp.2 ⟨by rw [he];exact hs,he⟩
 ·rw [Pp h (by omega)]
  exact Uq (.inr (hn k hk))
theorem fol_0_m {r:Zi} {s:ByteArray}:Pz r 0 s= -1:=rfl
theorem fol_0_no {r:Zi} {m:Nat} {s:ByteArray} (h5:r.kind≠5) (h6:r.kind≠6) (h:(Jt r 0).data.toList≠s.data.toList):Pz r m s= -1:=by
 refine Xd fun k hk=> ?_
 by_cases hz:k=0
 ·subst hz;exact Uq (.inr h)
 ·exact Uq (.inl (stepR_0' h5 h6 (by omega)))
theorem fol_0_at {r:Zi} {m:Nat} {s:ByteArray} (hm:0 < m) (h:(Jt r 0).data.toList=s.data.toList) (hs:s.data.toList≠ []):Pz r m s=0:=
 Vp hm (Mp.2 ⟨by rw [show ((0:Nat):Int)=0 from rfl,h];exact hs,by rw [show ((0:Nat):Int)=0 from rfl,h]⟩) fun j hj=> absurd hj (Nat.not_lt_zero j)
theorem nilB (l:List UInt8):(l== [])=l.isEmpty:=by cases l <;> rfl
theorem eqT_true {t s:ByteArray} (h:t.data.toList=s.data.toList):(t.toList==s.toList)=true:=by rw [Lib.toList_data,Lib.toList_data,h];simp
theorem eqT_false {t s:ByteArray} (h:t.data.toList≠s.data.toList):(t.toList==s.toList)=false:=by rw [Lib.toList_data,Lib.toList_data];exact beq_eq_false_iff_ne.2 h
def Tn (r:Zi) (n:Int):Int:=Ys (fun j=> r.tags[j]?==some n) r.tags.length
theorem tagAt_no {r:Zi} {n:Int} (h:∀k (hk:k < r.tags.length),r.tags[k]≠n):Tn r n= -1:=
 Xd fun k hk=> by rw [List.getElem?_eq_getElem hk];simpa using h k hk
theorem Kw {r:Zi} {n:Int} {k:Nat} (hk:k < r.tags.length) (h:r.tags[k]=n) (hn:∀j (hj:j < k),(r.tags[j]'(by omega))≠n):Tn r n=k:=
 Vp hk (by rw [List.getElem?_eq_getElem hk];simpa using h) fun j hj=> by rw [List.getElem?_eq_getElem (show j < r.tags.length by omega)];simpa using hn j hj
theorem firstTo_bd (p:Nat→Bool) (n:Nat):Ys p n= -1∨∃k:Nat,k < n∧Ys p n=k∧p k=true:=by
 induction n with
 |zero=> exact .inl rfl
 |succ n ih=>
  rw [Ys]
  rcases ih with e|⟨k,hk,e,hp⟩
  ·rw [e,if_neg (by omega)]
   cases hq:p n
   ·exact .inl rfl
   ·exact .inr ⟨n,by omega,by rw [if_pos rfl],hq⟩
  ·rw [e,if_pos (by omega)]
   exact .inr ⟨k,by omega,rfl,hp⟩
theorem Ow (r:Zi) (n:Int):Tn r n= -1∨∃k:Nat,∃hk:k < r.tags.length,Tn r n=k∧r.tags[k]=n:=by
 rcases firstTo_bd (fun j=> r.tags[j]?==some n) r.tags.length with e|⟨k,hk,e,hp⟩
 ·exact .inl e
 ·rw [List.getElem?_eq_getElem hk] at hp
  exact .inr ⟨k,hk,e,by simpa using hp⟩
def Qk (r:Zi) (n:Int) (i:Nat):Int:=
 if r.kind=5 then Xt r 1
 else if r.kind=6 then (if i < r.kids.length then Xt r i else -1)
 else if r.kind=7 then (if Tn r n < 0 then -1 else Xt r ((Tn r n).toNat+1))
 else if r.kind=8∨r.kind=9 then Xt r 0
 else -1
def Qh (D:List Zi) (r:Zi) (n:Int) (nb ni:Nat):Bool:=
 if r.kind=1 then Xs n 0 (Tb r.size - 1) && (decide (nb=0) && decide (ni=0))
 else if r.kind=2 then decide (n=0) && (decide (nb=0) && decide (ni=0))
 else if r.kind=3 then decide (n=0) && (decide ((nb:Int)=r.size) && decide (ni=0))
 else if r.kind=4 then decide (n=0) && (decide ((nb:Int)≤min 400 (Zr D (Xt r 0))) && decide (ni=0))
 else if r.kind=10 then decide (n=0) && (decide (nb≤400) && decide (ni=0))
 else if r.kind=5 then decide (n=0) && (decide (nb=0) && decide ((ni:Int)≤min 40 (Zr D (Xt r 0))))
 else if r.kind=6 then decide (n=0) && (decide (nb=0) && decide (ni=r.kids.length))
 else if r.kind=7 then decide (nb=0) && (decide (ni=1) && decide (0≤Qk r n 0))
 else if r.kind=8 then decide (n=0) && (decide (nb=0) && decide (ni≤1))
 else decide (n=0) && (decide (nb=0) && decide (ni=1))
mutual
def Zn (D:List Zi):Int→Zv→Bool
 |k, .mk n b l=> (match Jo D k with|none=> false|some r=> Qh D r n b.length l.length && Yb D r n 0 l)
def Yb (D:List Zi) (r:Zi) (n:Int):Nat→List Zv→Bool
 | _, []=> true
 |i,x::l=> Zn D (Qk r n i) x && Yb D r n (i+1) l
end
theorem Vq (D:List Zi) (k:Int) (x:Zv):Zn D k x=(match Jo D k with|none=> false|some r=> Qh D r x.n x.b.length x.items.length && Yb D r x.n 0 x.items):=by
 cases x;rw [Zn];rfl
theorem validVs_nil (D:List Zi) (r:Zi) (n:Int) (i:Nat):Yb D r n i []=true:=by rw [Yb]
theorem Fb (D:List Zi) (r:Zi) (n:Int) (i:Nat) (x:Zv) (l:List Zv):Yb D r n i (x::l)=(Zn D (Qk r n i) x && Yb D r n (i+1) l):=by rw [Yb]
theorem Tz (D:List Zi) (r:Zi) (n:Int):∀(l:List Zv) (i:Nat),Yb D r n i l=true↔∀j (hj:j < l.length),Zn D (Qk r n (i+j)) l[j]=true
 | [],i=> by rw [validVs_nil];simp
 |x::l,i=> by
  rw [Fb,Bool.and_eq_true,Tz D r n l (i+1)]
  constructor
  ·rintro ⟨h1,h2⟩ j hj
   cases j with
   |zero=> exact h1
   |succ j=> have:=h2 j (by simpa using hj);rw [show i+1+j=i+(j+1) by omega] at this;exact this
  ·intro h
   refine ⟨h 0 (by simp),fun j hj=> ?_⟩
   have:=h (j+1) (by simpa using hj)
   rw [show i+1+j=i+(j+1) by omega]
   exact this
theorem Ra {D:List Zi} {r:Zi} {n:Int} {l:List Zv} (h:∀j (hj:j < l.length),Zn D (Qk r n j) l[j]=true):Yb D r n 0 l=true:=
 (Tz D r n l 0).2 fun j hj=> by rw [Nat.zero_add];exact h j hj
theorem Ln {D:List Zi} {r:Zi} {n:Int} {l:List Zv} {j:Nat} (hj:j < l.length) (h:Zn D (Qk r n j) l[j]=false):Yb D r n 0 l=false:=by
 cases e:Yb D r n 0 l
 ·rfl
 ·have:=(Tz D r n l 0).1 e j hj
  rw [Nat.zero_add,h] at this
  cases this
theorem Ko {D:List Zi} {r:Zi} {n:Int} {l:List Zv} (h:Yb D r n 0 l=true) {j:Nat} (hj:j < l.length):Zn D (Qk r n j) l[j]=true:=by
 have:=(Tz D r n l 0).1 h j hj
 rwa [Nat.zero_add] at this
def Ul (D:List Zi) (k n:Int) (i:Nat):Int:=match Jo D k with|none=> -1|some r=> Qk r n i
def Jk (D:List Zi):Int→Zv→List ByteArray→Option (Int × Zv)
 |k,x, []=> some (k,x)
 |k,x,s::t=> match Qy D k x.items.length s with
  | .ofNat j=> (match x.items[j]? with|none=> none|some y=> Jk D (Ul D k x.n j) y t)
  | .negSucc _=> none
theorem Uh (D:List Zi) (k:Int) (x:Zv):Jk D k x []=some (k,x):=by rw [Jk]
theorem Tm {D:List Zi} {k:Int} {x:Zv} {s:ByteArray} {t:List ByteArray} (h:Qy D k x.items.length s < 0):Jk D k x (s::t)=none:=by
 rw [Jk]
 split
 ·rename_i j hj;rw [hj] at h;simp at h;omega
 ·rfl
theorem Us {D:List Zi} {k:Int} {x:Zv} {s:ByteArray} {t:List ByteArray} {j:Nat} (h:Qy D k x.items.length s=j) (hj:j < x.items.length):Jk D k x (s::t)=Jk D (Ul D k x.n j) x.items[j] t:=by
 rw [Jk,h]
 show (match x.items[j]? with|none=> none|some y=> Jk D (Ul D k x.n j) y t)=_
 rw [List.getElem?_eq_getElem hj]
theorem Yz (D:List Zi) (k:Int) (m:Nat) (s:ByteArray):Qy D k m s= -1∨∃j:Nat,j < m∧Qy D k m s=j:=by
 unfold Qy
 split
 ·split
  ·exact .inl rfl
  ·exact folR_bd _ m s
 ·exact .inl rfl
def Ta (D:List Zi) (p:Zv):Int→Zv→List ByteArray→Zv
 | _,_, []=> p
 |k,x,s::t=> .mk x.n x.b (x.items.set (Qy D k x.items.length s).toNat (match x.items[(Qy D k x.items.length s).toNat]? with|none=> p|some y=> Ta D p (Ul D k x.n (Qy D k x.items.length s).toNat) y t))
theorem Ro (D:List Zi) (p:Zv) (k:Int) (x:Zv):Ta D p k x []=p:=by rw [Ta]
theorem Pr {D:List Zi} {p:Zv} {k:Int} {x:Zv} {s:ByteArray} {t:List ByteArray} {j:Nat} (h:Qy D k x.items.length s=j) (hj:j < x.items.length):
  Ta D p k x (s::t)= .mk x.n x.b (x.items.set j (Ta D p (Ul D k x.n j) x.items[j] t)):=by
 rw [Ta,h,Int.toNat_natCast,List.getElem?_eq_getElem hj]
theorem Ut {D:List Zi} {k:Int} {x:Zv} (h:Zn D k x=true) {j:Nat} (hj:j < x.items.length):Zn D (Ul D k x.n j) x.items[j]=true:=by
 rw [Vq] at h
 unfold Ul
 cases hr:Jo D k with
 |none=> rw [hr] at h;cases h
 |some r=>
  rw [hr] at h
  simp only [Bool.and_eq_true] at h
  exact Ko h.2 hj
theorem Xl {D:List Zi}:∀{t:List ByteArray} {k k':Int} {x y:Zv},Zn D k x=true→Jk D k x t=some (k',y)→Zn D k' y=true
 | [],k,k',x,y,h,hw=> by rw [Uh] at hw;cases hw;exact h
 |s::t,k,k',x,y,h,hw=> by
  rcases Yz D k x.items.length s with e|⟨j,hj,e⟩
  ·rw [Tm (by omega)] at hw;cases hw
  ·rw [Us e hj] at hw
   exact Xl (Ut h hj) hw
theorem Ii {D:List Zi} {p:Zv}:∀{t:List ByteArray} {k k':Int} {x y:Zv},Zn D k x=true→Jk D k x t=some (k',y)→Zn D k' p=true→Zn D k (Ta D p k x t)=true
 | [],k,k',x,y,h,hw,hp=> by rw [Uh] at hw;cases hw;rw [Ro];exact hp
 |s::t,k,k',x,y,h,hw,hp=> by
  rcases Yz D k x.items.length s with e|⟨j,hj,e⟩
  ·rw [Tm (by omega)] at hw;cases hw
  ·rw [Us e hj] at hw
   have hi:=Ii (Ut h hj) hw hp
   rw [Pr e hj]
   rw [Vq] at h ⊢
   unfold Ul at hi ⊢
   cases hr:Jo D k with
   |none=> rw [hr] at h;cases h
   |some r=>
    rw [hr] at h hi
    simp only [Bool.and_eq_true,Zv.n_mk,Zv.b_mk,Zv.items_mk,List.length_set] at h ⊢
    refine ⟨h.1,Ra fun i hi'=> ?_⟩
    rw [List.getElem_set]
    split
    ·rename_i e2;subst e2;exact hi
    ·exact Ko h.2 (by simpa using hi')
theorem Ui {D:List Zi} (h:Yf D=true) {k:Nat} (hk:k < D.length):Xi D k D[k]=true:=by
 unfold Yf at h
 rw [Bool.and_eq_true] at h
 have:=(Yw _ _).1 h.1 k hk
 rwa [Pm D k hk] at this
theorem Pd {D:List Zi} {i:Nat} {r:Zi} (h:Xi D i r=true) {j:Nat} (hj:j < r.kids.length):∃q:Nat,r.kids[j]=q∧q < i:=by
 unfold Xi at h
 rw [Bool.and_eq_true,Bool.and_eq_true] at h
 have:=(Yw _ _).1 h.2.1 j hj
 rw [Mi _ _ _ hj] at this
 have:=Jv.1 this
 exact ⟨r.kids[j].toNat,by omega,by omega⟩
theorem Yc {D:List Zi} {i:Nat} {r:Zi} (h:Xi D i r=true):Zp D r=true:=by
 unfold Xi at h
 simp only [Bool.and_eq_true] at h
 exact h.2.2.2.1
def VM.sub:VM→List Nat→Option VM
 |x, []=> some x
 |x,j::t=> match x.items[j]? with|none=> none|some y=> VM.sub y t
def VM.put (p:VM):VM→List Nat→VM
 | _, []=> p
 |x,j::t=> .mk x.n x.b x.vb x.vi (x.items.set j (match x.items[j]? with|none=> p|some y=> VM.put p y t))
def VM.adr:VM→Nat→Nat→List Nat→Nat × Nat
 | _,g,o, []=> (g,o)
 |x,g,o,j::t=> match x.items[j]?,x.vi.ownBlock with|some y,some h=> VM.adr y h (j*3) t| _,_=> (g,o)
theorem VM.sub_nil (x:VM):x.sub []=some x:=rfl
theorem VM.sub_at {x:VM} {j:Nat} (hj:j < x.items.length) (t:List Nat):x.sub (j::t)=x.items[j].sub t:=by rw [VM.sub,List.getElem?_eq_getElem hj]
theorem VM.sub_lt {x y:VM} {j:Nat} {t:List Nat} (h:x.sub (j::t)=some y):∃hj:j < x.items.length,x.items[j].sub t=some y:=by
 rw [VM.sub] at h
 cases e:x.items[j]? with
 |none=> rw [e] at h;cases h
 |some z=> rw [e] at h;obtain ⟨hj,rfl⟩:=List.getElem?_eq_some_iff.1 e;exact ⟨hj,h⟩
theorem VM.put_nil (p x:VM):VM.put p x []=p:=rfl
theorem VM.put_at {x:VM} {j:Nat} (hj:j < x.items.length) (p:VM) (t:List Nat):VM.put p x (j::t)= .mk x.n x.b x.vb x.vi (x.items.set j (VM.put p x.items[j] t)):=by rw [VM.put,List.getElem?_eq_getElem hj]
theorem VM.adr_nil (x:VM) (g o:Nat):x.adr g o []=(g,o):=rfl
theorem VM.adr_at {x:VM} {j h:Nat} (hj:j < x.items.length) (hh:x.vi.ownBlock=some h) (g o:Nat) (t:List Nat):x.adr g o (j::t)=x.items[j].adr h (j*3) t:=by rw [VM.adr,List.getElem?_eq_getElem hj,hh]
theorem VM.sub_append:∀{t u:List Nat} {x y:VM},x.sub t=some y→x.sub (t++u)=y.sub u
 | [],u,x,y,h=> by rw [VM.sub_nil] at h;cases h;rfl
 |j::t,u,x,y,h=> by
  obtain ⟨hj,h⟩:=VM.sub_lt h
  rw [List.cons_append,VM.sub_at hj]
  exact VM.sub_append h
theorem VM.put_append (p:VM):∀{t u:List Nat} {x y:VM},x.sub t=some y→VM.put p x (t++u)=VM.put (VM.put p y u) x t
 | [],u,x,y,h=> by rw [VM.sub_nil] at h;cases h;rfl
 |j::t,u,x,y,h=> by
  obtain ⟨hj,h⟩:=VM.sub_lt h
  rw [List.cons_append,VM.put_at hj,VM.put_at hj,VM.put_append p h]
theorem VM.adr_append:∀{t:List Nat} {x y:VM} {j h:Nat} {g o:Nat},x.sub t=some y→j < y.items.length→y.vi.ownBlock=some h→(∀z:VM,∀s j' t',t=s++j'::t'→x.sub s=some z→z.vi.ownBlock≠none)→x.adr g o (t++ [j])=(h,j*3)
 | [],x,y,j,h,g,o,hs,hj,hh,_=> by
  rw [VM.sub_nil] at hs;cases hs
  rw [List.nil_append,VM.adr_at hj hh,VM.adr_nil]
 |i::t,x,y,j,h,g,o,hs,hj,hh,hz=> by
  obtain ⟨hi,hs⟩:=VM.sub_lt hs
  have h0:=hz x [] i t rfl rfl
  cases e:x.vi.ownBlock with
  |none=> exact absurd e h0
  |some q=>
   rw [List.cons_append,VM.adr_at hi e]
   exact VM.adr_append hs hj hh fun z s j' t' e2 e3=> hz z (i::s) j' t' (by rw [e2];rfl) (by rw [VM.sub_at hi];exact e3)
theorem VM.bkss_mid {l:List VM} {j:Nat} (hj:j < l.length) (z:VM):VM.bkss (l.set j z)=VM.bkss (l.take j)++(z.bks++VM.bkss (l.drop (j+1))):=by
 rw [List.set_eq_take_append_cons_drop,if_pos hj,VM.bkss_append,VM.bkss_cons]
theorem VM.bkss_at {l:List VM} {j:Nat} (hj:j < l.length):VM.bkss l=VM.bkss (l.take j)++(l[j].bks++VM.bkss (l.drop (j+1))):=by
 have:=VM.bkss_mid hj l[j]
 rwa [List.set_getElem_self] at this
theorem perm_mid {α:Type} (A B C D:List α) {y r:List α} (h:B.Perm (y++r)):(D++(A++(B++C))).Perm (y++(D++(A++(r++C)))):=by
 have h1:(D++(A++(B++C))).Perm (D++(A++((y++r)++C))):=List.Perm.append_left _ (List.Perm.append_left _ (List.Perm.append_right _ h))
 refine h1.trans ?_
 rw [List.append_assoc y r C,←List.append_assoc A y,←List.append_assoc D (A++y)]
 refine (List.Perm.append_right _ ?_).trans (List.Perm.of_eq (by simp [List.append_assoc]:(y++(D++A))++(r++C)=_))
 rw [←List.append_assoc]
 exact List.perm_append_comm
theorem VM.bks_put:∀{t:List Nat} {x y:VM},x.sub t=some y→∃rest,x.bks.Perm (y.bks++rest)∧∀p:VM,(VM.put p x t).bks.Perm (p.bks++rest)
 | [],x,y,h=> by rw [VM.sub_nil] at h;cases h;exact ⟨[],by rw [List.append_nil],fun p=> by rw [VM.put_nil,List.append_nil]⟩
 |j::t,x,y,h=> by
  obtain ⟨hj,h⟩:=VM.sub_lt h
  obtain ⟨rest,h1,h2⟩:=VM.bks_put h
  obtain ⟨n,b,vb,vi,l⟩:=x
  simp only [VM.items_mk] at hj h1 h2
  refine ⟨(vb.ownBlock.toList++vi.ownBlock.toList)++(VM.bkss (l.take j)++(rest++VM.bkss (l.drop (j+1)))),?_,fun p=> ?_⟩
  ·rw [VM.bks_mk,←List.append_assoc,VM.bkss_at hj]
   exact perm_mid _ _ _ _ h1
  ·rw [VM.put_at hj]
   simp only [VM.n_mk,VM.b_mk,VM.vb_mk,VM.vi_mk,VM.items_mk]
   rw [VM.bks_mk,←List.append_assoc,VM.bkss_mid hj]
   exact perm_mid _ _ _ _ (h2 p)
theorem VM.bks_sub {t:List Nat} {x y:VM} (h:x.sub t=some y) {g:Nat} (hg:g∈y.bks):g∈x.bks:=by
 obtain ⟨rest,h1,_⟩:=VM.bks_put h
 exact h1.mem_iff.2 (List.mem_append_left _ hg)
structure Te (w:World) (lo g o:Nat) (x:VM):Prop where
 cells:∀i u,(Ze x)[i]?=some u→w.cell? ⟨g,o+i,none⟩=some u
 own:x.own lo w
 nd:x.bks.Nodup
 out:g ∉ x.bks
theorem Jp {w:World} {base n:Nat} {E:TypeId} {size:Nat} {v:Value} {xs:List Value} (h:w.ownsRow base E size v n xs) (hn:0 < n):∃g c,v= .slice (some ⟨g,0,none⟩) n c∧v.ownBlock=some g:=by
 rcases h.2 with ⟨rfl,rfl⟩|⟨g,cap,cur,rfl,_⟩
 ·have:=h.1
  omega
 ·exact ⟨g,cap,rfl,rfl⟩
theorem putCells_heap {g k:Nat} (hg:k≠g) (us:List Value):∀(w:World) (o:Nat),(Qu w g o us).heap[k]?=w.heap[k]?:=by
 induction us with
 |nil=> intro w o;rfl
 |cons u us ih=> intro w o;rw [Qu,ih];exact Below.heap_setCell _ _ _ _ hg
theorem Ri {g k:Nat} (hg:k≠g) (us:List Value) (w:World) (o i:Nat):(Qu w g o us).cell? ⟨k,i,none⟩=w.cell? ⟨k,i,none⟩:=
 World.cell?_of_block (a:=⟨k,i,none⟩) (putCells_heap hg us w o)
theorem Ff (g:Nat) (us:List Value):∀(w:World) (o i:Nat),i < o→(Qu w g o us).cell? ⟨g,i,none⟩=w.cell? ⟨g,i,none⟩:=by
 induction us with
 |nil=> intro w o i _;rfl
 |cons u us ih=>
  intro w o i hi
  rw [Qu,ih _ (o+1) i (by omega)]
  exact World.cell?_setCell_other _ _ _ _ (by intro e;simp only [Addr.mk.injEq] at e;omega)
theorem Lt (g:Nat) (us:List Value):∀(w:World) (o:Nat),(∀i,i < us.length→∃u,w.cell? ⟨g,o+i,none⟩=some u)→∀i u,us[i]?=some u→(Qu w g o us).cell? ⟨g,o+i,none⟩=some u:=by
 induction us with
 |nil=> intro w o _ i u h;simp at h
 |cons v us ih=>
  intro w o hc i u h
  rw [Qu]
  cases i with
  |zero=>
   rw [Ff _ _ _ _ _ (by omega)]
   obtain ⟨x,hx⟩:=hc 0 (by simp)
   rw [Nat.add_zero] at hx ⊢
   simp only [List.getElem?_cons_zero,Option.some.injEq] at h
   subst h
   exact World.cell?_setCell_same' _ _ _ (by rw [hx];rfl)
  |succ i=>
   have:=ih (w.setCell ⟨g,o,none⟩ v) (o+1) (fun i hi=> by
    obtain ⟨x,hx⟩:=hc (i+1) (by simpa using hi)
    exact ⟨x,by rw [World.cell?_setCell_other _ _ _ _ (by intro e;simp only [Addr.mk.injEq] at e;omega),show o+1+i=o+(i+1) by omega];exact hx⟩) i u (by simpa using h)
   rw [show o+1+i=o+(i+1) by omega] at this
   exact this
theorem VM.own_put {lo:Nat} {w:World} {a b:Nat} {us:List Value} {x:VM} (h:x.own lo w) (ha:a ∉ x.bks):x.own lo (Qu w a b us):=
 h.keep fun g hg=> putCells_heap (fun e=> ha (by rw [←e];exact hg)) us w b
theorem VM.flat_set {l:List VM} {j:Nat} (hj:j < l.length) (z:VM):(l.set j z).flatMap Ze=(l.take j).flatMap Ze++Ze z++(l.drop (j+1)).flatMap Ze:=by
 rw [List.set_eq_take_append_cons_drop,if_pos hj,List.flatMap_append,List.flatMap_cons,List.append_assoc]
theorem VM.flat_same {l:List VM} {j:Nat} (hj:j < l.length) (z:VM) (hz:Ze z=Ze l[j]):(l.set j z).flatMap Ze=l.flatMap Ze:=by
 have h:=VM.flat_set hj l[j]
 rw [List.set_getElem_self] at h
 rw [VM.flat_set hj,hz,←h]
theorem VM.adr_in {lo:Nat} {w:World}:∀{t:List Nat} {x y:VM} {g o:Nat},x.sub t=some y→x.own lo w→(x.adr g o t).1=g∨(x.adr g o t).1∈x.bks
 | [],x,y,g,o,_,_=> .inl rfl
 |j::t,x,y,g,o,h,hx=> by
  obtain ⟨hj,h⟩:=VM.sub_lt h
  obtain ⟨q,c,ev,hq⟩:=Jp hx.row (by omega)
  rw [VM.adr_at hj hq]
  have hm:q∈x.bks:=by
   have hd:=VM.bks_mk x.n x.b x.vb x.vi x.items
   have he:(VM.mk x.n x.b x.vb x.vi x.items)=x:=by cases x;rfl
   rw [he] at hd
   rw [hd,hq];simp
  rcases VM.adr_in (g:=q) (o:=j*3) h (hx.its _ (Fw hj)) with e|e
  ·rw [e];exact .inr hm
  ·exact .inr (VM.bks_sub (x:=x) (t:= [j]) (y:=x.items[j]) (by rw [VM.sub_at hj,VM.sub_nil]) e)
structure NewV (w:World) (lo:Nat) (x y p:VM):Prop where
 own:p.own lo w
 nd:p.bks.Nodup
 far:∀k∈p.bks,k ∉ x.bks∨k∈y.bks
theorem Te.put {w:World} {lo:Nat} {y p:VM}:∀{t:List Nat} {x:VM} {g o:Nat},Te w lo g o x→x.sub t=some y→NewV w lo x y p→g ∉ p.bks→
  Te (Qu w (x.adr g o t).1 (x.adr g o t).2 (Ze p)) lo g o (VM.put p x t)∧((x.adr g o t).1=g∨(x.adr g o t).1∈x.bks)∧
   (∀i u,(Ze y)[i]?=some u→w.cell? ⟨(x.adr g o t).1,(x.adr g o t).2+i,none⟩=some u)
 | [],x,g,o,h,hs,hp,hg=> by
  rw [VM.sub_nil] at hs
  cases hs
  rw [VM.adr_nil,VM.put_nil]
  refine ⟨⟨fun i u hu=> Lt g _ w o (fun i hi=> ?_) i u hu,hp.own.keep fun k hk=> putCells_heap (fun e=> hg (by have e:k=g:=e;rw [←e];exact hk)) _ w o,hp.nd,hg⟩, .inl rfl,h.cells⟩
  rw [Qj] at hi
  exact ⟨_,h.cells i _ (List.getElem?_eq_getElem (by rw [Qj];exact hi))⟩
 |j::t,x,g,o,h,hs,hp,hg=> by
  obtain ⟨hj,hs⟩:=VM.sub_lt hs
  obtain ⟨rest,hr1,hr2⟩:=VM.bks_put (x:=x) (t:=j::t) (by rw [VM.sub_at hj];exact hs)
  obtain ⟨n,b,vb,vi,l⟩:=x
  simp only [VM.items_mk] at hj hs
  have hown:=h.own
  have hnd:=h.nd
  have hout:=h.out
  have ob:=hown.bytes
  have oi:=hown.row
  have ox:=hown.its
  simp only [VM.vb_mk,VM.b_mk,VM.vi_mk,VM.items_mk] at ob oi ox
  obtain ⟨q,c,ev,hq⟩:=Jp oi (by omega)
  subst ev
  rw [VM.adr_at (h:=q) (by exact hj) rfl]
  simp only [VM.items_mk]
  have hbk:(VM.mk n b vb (.slice (some ⟨q,0,none⟩) l.length c) l).bks=vb.ownBlock.toList++([q]++VM.bkss l):=by rw [VM.bks_mk];rfl
  rw [hbk] at hnd hout
  rw [VM.bkss_at hj] at hnd hout
  simp only [List.nodup_append,List.mem_append,List.mem_singleton,List.nodup_cons,List.not_mem_nil,List.nodup_nil] at hnd
  simp only [List.mem_append,List.mem_singleton,not_or] at hout
  have hin:∀k,k∈l[j].bks→k∈(VM.mk n b vb (.slice (some ⟨q,0,none⟩) l.length c) l).bks:=fun k hk=> by
   rw [hbk,VM.bkss_at hj];simp only [List.mem_append];exact .inr (.inr (.inr (.inl hk)))
  have hqx:q∈(VM.mk n b vb (.slice (some ⟨q,0,none⟩) l.length c) l).bks:=by rw [hbk];simp
  have hqj:q ∉ l[j].bks:=fun hk=> (hnd.2.1.2.2 q rfl q (.inr (.inl hk))) rfl
  have hvq:vb.ownBlock≠some q:=fun e=> hnd.2.2 q (by rw [e];simp) q (.inl rfl) rfl
  have hvj:∀k,vb.ownBlock=some k→k ∉ l[j].bks:=fun k e hk=> hnd.2.2 k (by rw [e];simp) k (.inr (.inr (.inl hk))) rfl
  have hbox:Te w lo q (j*3) l[j]:=⟨fun i u hu=> by
    have hi3:i < 3:=by have:=(List.getElem?_eq_some_iff.1 hu).1;rwa [Qj] at this
    have hc:=oi.cellAt (j*3+i) (by have:=Nat.mul_le_mul_right 3 (show j+1≤l.length by omega);omega)
    rw [hc,Vo Ze 3 Qj l j i hj hi3]
    exact hu,ox _ (Fw hj),hnd.2.1.2.1.2.1.1,hqj⟩
  have hpq:q ∉ p.bks:=fun hk=> by
   rcases hp.far q hk with h1|h1
   ·exact h1 hqx
   ·exact hqj (VM.bks_sub hs h1)
  obtain ⟨i1,i2,i3⟩:=Te.put hbox hs (p:=p) ⟨hp.own,hp.nd,fun k hk=> (hp.far k hk).imp (fun h1 h2=> h1 (hin k h2)) id⟩ hpq
  obtain ⟨a,ha⟩:∃a,a=(l[j].adr q (j*3) t).1:=⟨_,rfl⟩
  obtain ⟨o',ho'⟩:∃o',o'=(l[j].adr q (j*3) t).2:=⟨_,rfl⟩
  rw [←ha,←ho'] at i1 i3 ⊢
  rw [←ha] at i2
  have hax:a∈(VM.mk n b vb (.slice (some ⟨q,0,none⟩) l.length c) l).bks:=by
   rcases i2 with e|e
   ·rw [e];exact hqx
   ·exact hin a e
  have hag:g≠a:=fun e=> h.out (e ▸ hax)
  have hav:∀k,vb.ownBlock=some k→k≠a:=fun k e e2=> by
   subst e2
   rcases i2 with e3|e3
   ·exact hvq (e3 ▸ e)
   ·exact hvj k e e3
  refine ⟨⟨fun i u hu=> ?_,?_,?_,?_⟩, .inr hax,i3⟩
  ·rw [Ri hag]
   refine h.cells i u ?_
   rw [VM.put_at (by exact hj)] at hu
   exact hu
  ·rw [VM.put_at (by exact hj)]
   simp only [VM.n_mk,VM.b_mk,VM.vb_mk,VM.vi_mk,VM.items_mk]
   refine .mk (Ql ob fun k e=> putCells_heap (hav k e) _ _ _) ?_ fun z hz=> ?_
   ·rw [List.length_set]
    cases t with
    |nil=>
     rw [VM.sub_nil] at hs
     cases hs
     rw [VM.adr_nil] at ha ho'
     dsimp only at ha ho'
     subst ha ho'
     rw [VM.put_nil,VM.flat_set hj]
     have hl:((l.take j).flatMap Ze).length=j*3:=by rw [Vv Ze 3 Qj,List.length_take,Nat.min_eq_left (by omega)]
     have hs:=VM.flat_set hj l[j]
     rw [List.set_getElem_self,List.append_assoc] at hs
     rw [hs] at oi
     have:=Md (Ze p) w ((l.take j).flatMap Ze) (Ze l[j]++(l.drop (j+1)).flatMap Ze) (by simp [Ze]) oi
     rw [hl] at this
     rw [show (Ze l[j]++(l.drop (j+1)).flatMap Ze).drop (Ze p).length=(l.drop (j+1)).flatMap Ze from by
      rw [Qj,←Qj l[j],List.drop_left]] at this
     exact this
    |cons i t=>
     obtain ⟨hi,hs'⟩:=VM.sub_lt hs
     have haq:q≠a:=by
      rcases i2 with e|e
      ·have oj:=(ox _ (Fw hj)).row
       obtain ⟨q',c',ev',hq'⟩:=Jp oj (by omega)
       have hm:q'∈l[j].bks:=by
        have hd:=VM.bks_mk l[j].n l[j].b l[j].vb l[j].vi l[j].items
        have he:(VM.mk l[j].n l[j].b l[j].vb l[j].vi l[j].items)=l[j]:=by cases l[j];rfl
        rw [he] at hd
        rw [hd,hq'];simp
       intro _
       rw [VM.adr_at hi hq'] at ha
       have hsub:Te w lo q' (i*3) l[j].items[i]∨True:= .inr trivial
       rcases VM.adr_in (x:=l[j].items[i]) (y:=y) (g:=q') (o:=i*3) (t:=t) hs' ((ox _ (Fw hj)).its _ (Fw hi)) with e4|e4
       ·rw [←ha,e] at e4
        exact hqj (e4 ▸ hm)
       ·rw [←ha,e] at e4
        refine hqj ?_
        have:=VM.bks_sub (x:=l[j]) (t:= [i]) (y:=l[j].items[i]) (by rw [VM.sub_at hi,VM.sub_nil]) e4
        exact this
      ·exact fun e'=> hqj (e' ▸ e)
     rw [VM.flat_same hj _ (by rw [VM.put_at hi];rfl)]
     exact Ql oi fun k e=> putCells_heap (by
      have:q=k:=by simpa [Value.ownBlock] using e
      exact this ▸ haq) _ _ _
   ·obtain ⟨i,hi,rfl⟩:=List.getElem_of_mem hz
    rw [List.length_set] at hi
    rw [List.getElem_set]
    split
    ·exact i1.own
    ·rename_i hne
     refine VM.own_put (ox _ (Fw hi)) fun hk=> ?_
     have hmem:a∈VM.bkss (l.take j)∨a∈VM.bkss (l.drop (j+1)):=by
      by_cases hij:i < j
      ·exact .inl (VM.mem_bkss (x:=l[i]) (List.mem_take_iff_getElem.2 ⟨i,by omega,rfl⟩) hk)
      ·refine .inr (VM.mem_bkss (x:=l[i]) ?_ hk)
       exact List.mem_drop_iff_getElem.2 ⟨i - (j+1),by omega,by simp [show j+1+(i - (j+1))=i by omega]⟩
     rcases i2 with e|e
     ·rcases hmem with h1|h1
      ·exact hnd.2.1.2.2 q rfl q (.inl (e ▸ h1)) rfl
      ·exact hnd.2.1.2.2 q rfl q (.inr (.inr (e ▸ h1))) rfl
     ·rcases hmem with h1|h1
      ·exact hnd.2.1.2.1.2.2 a h1 a (.inl e) rfl
      ·exact hnd.2.1.2.1.2.1.2.2 a e a h1 rfl
  ·rw [(hr2 p).nodup_iff,List.nodup_append]
   have hN:=(hr1.nodup_iff).1 h.nd
   rw [List.nodup_append] at hN
   refine ⟨hp.nd,hN.2.1,fun k hk k' hk' e=> ?_⟩
   subst e
   rcases hp.far k hk with h1|h1
   ·exact h1 (hr1.mem_iff.2 (List.mem_append_right _ hk'))
   ·exact hN.2.2 k h1 k hk' rfl
  ·intro hk
   rcases List.mem_append.1 ((hr2 p).mem_iff.1 hk) with h1|h1
   ·exact hg h1
   ·exact h.out (hr1.mem_iff.2 (List.mem_append_right _ h1))
def Hf (X:List Zv) (lo hi:Nat) (w:World) (v:Value):Prop:=
 ∃(l:List VM) (m:Nat),l.map VM.d=X∧Mt lo m 29 3 l.length (l.flatMap Ze) w v∧lo≤m∧m≤hi∧Ll l m hi w
theorem Hf.keep {X:List Zv} {lo hi lo' hi':Nat} {w w':World} {v:Value} (h:Hf X lo hi w v) (ho:Xq lo' hi' w w') (hd:hi≤lo'∨hi'≤lo):Hf X lo hi w' v:=by
 obtain ⟨l,m,h1,h2,h3,h4,h5⟩:=h
 exact ⟨l,m,h1,h2.keep ho (by omega),h3,h4,h5.keep ho (by omega)⟩
theorem Hf.wide {X:List Zv} {lo hi lo' hi':Nat} {w:World} {v:Value} (h:Hf X lo hi w v) (h1:lo'≤lo) (h2:hi≤hi'):Hf X lo' hi' w v:=by
 obtain ⟨l,m,a,b,c,d,e⟩:=h
 exact ⟨l,m,a,Mt.wide b h1 (Fu _),by omega,by omega,e.wide (Fu _) h2⟩
theorem Hf.sl {X:List Zv} {lo hi:Nat} {w:World} {v:Value} (h:Hf X lo hi w v):∃l:List VM,l.map VM.d=X∧Gw w w.heap.size v l:=by
 obtain ⟨l,m,h1,h2,h3,h4,h5⟩:=h
 exact ⟨l,h1,h2.sl,fun x hx=> (h5.own x hx).rd⟩
theorem Hf.slice {X:List Zv} {lo hi:Nat} {w:World} {v:Value} (h:Hf X lo hi w v):∃A c,v= .slice A X.length c:=by
 obtain ⟨l,m,h1,h2,h3,h4,h5⟩:=h
 obtain ⟨A,c,e⟩:=Gc h2
 exact ⟨A,c,by rw [e,←h1,List.length_map]⟩
theorem Ue.fin {n:Int} {b:List UInt8} {X:List Zv} {vb vi:Value} {lo l1 m1 m2 hi:Nat} {w:World} (h1:OwB b l1 m1 w vb) (h2:Hf X m1 m2 w vi) (h3:lo≤l1) (h4:m2≤hi) (h5:l1≤m1):
  Ue (.mk n b X) lo hi w (.agg #[.int .i64 n,vb,vi]):=by
 obtain ⟨l,m,a,c,d,e,f⟩:=h2
 exact ⟨.mk n b vb vi l,by rw [VM.d_mk,a],rfl,Ug.of (Mt.wide h1 h3 (Fu _)) c f (by omega) d e h4⟩
theorem info_value:(prog.info? 29).map (fun i=> (i.zero,i.size,i.bytes))=some (some (.agg #[.int .i64 0, .slice none 0 0, .slice none 0 0]),3,56):=by kernel_rfl
structure Xg (bs:List Nat) (w w':World):Prop where
 os:w'.os=w.os
 tape:w'.tape=w.tape
 output:w'.output=w.output
 size:w.heap.size≤w'.heap.size
 block:∀k,k < w.heap.size→k ∉ bs→w'.heap[k]?=w.heap[k]?
theorem Xg.refl (bs:List Nat) (w:World):Xg bs w w:=⟨rfl,rfl,rfl,Fu _,fun _ _ _=> rfl⟩
theorem Xg.trans {bs:List Nat} {a b c:World} (h:Xg bs a b) (k:Xg bs b c):Xg bs a c:=
 ⟨k.os.trans h.os,k.tape.trans h.tape,k.output.trans h.output,Nat.le_trans h.size k.size,fun i hi ho=> (k.block i (Ea hi h.size) ho).trans (h.block i hi ho)⟩
theorem Xg.mono {bs bs':List Nat} {a b:World} (h:Xg bs a b) (hs:∀g∈bs,g∈bs'):Xg bs' a b:=⟨h.os,h.tape,h.output,h.size,fun k hk ho=> h.block k hk fun e=> ho (hs k e)⟩
theorem Xg.of_below {bs:List Nat} {w w':World} (h:Below w.heap.size w w'):Xg bs w w':=⟨h.os,h.tape,h.output,h.size,fun k hk _=> h.block k hk⟩
theorem Xg.of_grown {bs:List Nat} {w w':World} {row:Option Nat} (h:w.grownBy w' row) (hr:∀k,row=some k→k∈bs):Xg bs w w':=
 ⟨h.os,h.tape,h.output,h.size,fun k hk ho=> h.block k hk fun e=> ho (hr k e.symm)⟩
theorem Xg.out {bs:List Nat} {lo hi:Nat} {w w':World} (h:Xg bs w w') (hb:∀g∈bs,lo≤g∧g < hi):Xq lo hi w w':=
 ⟨h.os,h.tape,h.output,h.size,fun k hk ho=> h.block k hk fun e=> by have:=hb k e;omega⟩
theorem VM.own.keepB {lo:Nat} {bs:List Nat} {w w':World} {x:VM} (h:x.own lo w) (ho:Xg bs w w') (hd:∀g∈x.bks,g ∉ bs):x.own lo w':=h.keep fun g hg=> ho.block g (h.lt g hg).2 (hd g hg)
theorem Lc {lo:Nat} {bs:List Nat} {E:TypeId} {size n:Nat} {v:Value} {xs:List Value} {w w':World} (h:w.ownsRow lo E size v n xs) (ho:Xg bs w w') (hd:∀g,v.ownBlock=some g→g ∉ bs):w'.ownsRow lo E size v n xs:=
 Ql h fun g hg=> ho.block g (h.lt g hg).2 (hd g hg)
theorem VM.bks_eq (x:VM):x.bks=x.vb.ownBlock.toList++(x.vi.ownBlock.toList++VM.bkss x.items):=by cases x;rw [VM.bks_mk];rfl
theorem VM.size_d (x:VM):x.d.size=x.b.length+Zv.sizes (x.items.map VM.d):=by cases x;rw [VM.d_mk,Zv.size_mk];rfl
theorem Jy {D:List Zi} {i:Int} {x:Zv} (h:Zn D i x=true):∃k:Nat,i=k∧k < D.length:=by
 rw [Vq] at h
 by_cases h0:0≤i
 ·by_cases h1:i < D.length
  ·exact ⟨i.toNat,by omega,by omega⟩
  ·rw [Vr (.inr (by omega))] at h;cases h
 ·rw [Vr (.inl (by omega))] at h;cases h
theorem Pa {D:List Zi} {i:Int} {x:Zv} (h:Zn D i x=true) (sm:∀r∈D,r.small 1048576):x.items.length≤1048576:=by
 obtain ⟨k,rfl,hk⟩:=Jy h
 obtain ⟨q,hq,e,hat⟩:=Yd (D:=D) (i:=(k:Int)) (by omega) (by omega)
 rw [Vq,hat] at h
 simp only [Bool.and_eq_true] at h
 have h1:=h.1
 have h2:=(sm _ (Fw hq)).kids
 unfold Qh at h1
 split at h1 <;> (try split at h1) <;> (try split at h1) <;> (try split at h1) <;> (try split at h1) <;> (try split at h1) <;> (try split at h1) <;> (try split at h1) <;> (try split at h1) <;> (simp only [Bool.and_eq_true,decide_eq_true_eq] at h1;omega)
theorem Pu {D:List Zi} {k:Nat} (hk:k < D.length) (n:Int) (i:Nat):Ul D k n i=Qk D[k] n i:=by
 obtain ⟨q,hq,e,hat⟩:=Yd (D:=D) (i:=(k:Int)) (by omega) (by omega)
 have:q=k:=by omega
 subst this
 unfold Ul
 rw [hat]
theorem VM.items_d (x:VM):x.d.items=x.items.map VM.d:=by cases x;rw [VM.d_mk];rfl
theorem VM.n_d (x:VM):x.d.n=x.n:=by cases x;rw [VM.d_mk];rfl
theorem VM.b_d (x:VM):x.d.b=x.b:=by cases x;rw [VM.d_mk];rfl
theorem VM.d_items_at {x:VM} {i:Nat} (hi:i < x.items.length):x.d.items[i]'(by rw [VM.items_d,List.length_map];exact hi)=x.items[i].d:=by
 simp only [VM.items_d,List.getElem_map]
theorem VM.size_item {x:VM} {i:Nat} (hi:i < x.items.length) {N:Nat} (h:x.d.size≤N):x.items[i].d.size≤N:=by
 have:=Zv.size_le_of_mem (List.mem_map_of_mem (f:=VM.d) (Fw hi))
 rw [VM.size_d] at h
 omega
theorem Hu {D:List Zi} {k:Nat} {y:VM} {s:ByteArray} {u:List ByteArray} {i:Nat} (hf:Qy D k y.items.length s=i) (hi:i < y.items.length):
  Jk D k y.d (s::u)=Jk D (Ul D k y.n i) y.items[i].d u:=by
 have hl:y.d.items.length=y.items.length:=by rw [VM.items_d,List.length_map]
 rw [Us (j:=i) (by rw [hl];exact hf) (by rw [hl];exact hi),VM.d_items_at hi,VM.n_d]
theorem Ht {D:List Zi} {k:Nat} {y:VM} {s:ByteArray} {u:List ByteArray} (hf:Qy D k y.items.length s < 0):Jk D k y.d (s::u)=none:=by
 have hl:y.d.items.length=y.items.length:=by rw [VM.items_d,List.length_map]
 exact Tm (by rw [hl];exact hf)
structure Fq (D:List Zi) (x:Zv) (S:List ByteArray) (w:World) (B:Nat) (j:Nat) (y:VM) (k:Nat):Prop where
 rd:y.rd w B
 sz:y.d.size≤4194304
 val:Zn D k y.d=true
 walk:Jk D (D.length - 1:Nat) x S=Jk D k y.d (S.drop j)
theorem Fq.rng {D:List Zi} {x:Zv} {S:List ByteArray} {w:World} {B j:Nat} {y:VM} {k:Nat} (h:Fq D x S w B j y k):k < D.length:=by
 obtain ⟨q,e,hq⟩:=Jy h.val
 omega
theorem Fq.items {D:List Zi} {x:Zv} {S:List ByteArray} {w:World} {B j:Nat} {y:VM} {k:Nat} (h:Fq D x S w B j y k):y.items.length≤4194304:=by
 have h1:=h.sz
 have h2:=Zv.length_le (y.items.map VM.d)
 rw [List.length_map] at h2
 rw [VM.size_d] at h1
 omega
theorem Fq.next {D:List Zi} {x:Zv} {S:List ByteArray} {w:World} {B j:Nat} {y:VM} {k i:Nat} (h:Fq D x S w B j y k) (hj:j < S.length) (hf:Qy D k y.items.length S[j]=i) (hi:i < y.items.length):
  ∃k':Nat,Qk (D[k]'h.rng) y.n i=k'∧Fq D x S w B (j+1) y.items[i] k':=by
 have hv:=Ut h.val (j:=i) (by rw [VM.items_d,List.length_map];exact hi)
 rw [VM.d_items_at hi,VM.n_d] at hv
 obtain ⟨k',e, -⟩:=Jy hv
 refine ⟨k',(Pu h.rng _ _).symm.trans e,h.rd.its.2 _ (Fw hi),VM.size_item hi h.sz,by rw [←e];exact hv,?_⟩
 rw [h.walk,List.drop_eq_getElem_cons hj,Hu hf hi,e]
theorem Fq.stop {D:List Zi} {x:Zv} {S:List ByteArray} {w:World} {B j:Nat} {y:VM} {k:Nat} (h:Fq D x S w B j y k) (hj:j < S.length) (hf:Qy D k y.items.length S[j] < 0):
  Jk D (D.length - 1:Nat) x S=none:=by
 rw [h.walk,List.drop_eq_getElem_cons hj,Ht hf]
theorem Fq.done {D:List Zi} {x:Zv} {S:List ByteArray} {w:World} {B j:Nat} {y:VM} {k:Nat} (h:Fq D x S w B j y k) (hj:S.length≤j):
  Jk D (D.length - 1:Nat) x S=some (↑k,y.d):=by
 rw [h.walk,List.drop_eq_nil_of_le hj,Uh]
structure Hs (D:List Zi) (x:VM) (S:List ByteArray) (w:World) (lo g o:Nat) (j:Nat) (t:List Nat) (y:VM) (k g' o':Nat):Prop where
 sub:x.sub t=some y
 own:y.own lo w
 rdi:Fq D x.d S w w.heap.size j y k
 adr:x.adr g o t=(g',o')
 pre:∀z:VM,∀s j' t',t=s++j'::t'→x.sub s=some z→z.vi.ownBlock≠none
 c0:w.cell? ⟨g',o',none⟩=some (.int .i64 y.n)
 c1:w.cell? ⟨g',o'+1,none⟩=some y.vb
 c2:w.cell? ⟨g',o'+2,none⟩=some y.vi
 put:∀(P:Zv) (z:VM),z.d=Ta D P k y.d (S.drop j)→(VM.put z x t).d=Ta D P (D.length - 1:Nat) x.d S
theorem VM.put_d (z x:VM) (j:Nat) (hj:j < x.items.length):(VM.put z x [j]).d= .mk x.d.n x.d.b (x.d.items.set j z.d):=by
 rw [VM.put_at hj,VM.put_nil,VM.d_mk,VM.n_d,VM.b_d,VM.items_d,List.map_set]
theorem Hs.next {D:List Zi} {x:VM} {S:List ByteArray} {w:World} {lo g o j:Nat} {t:List Nat} {y:VM} {k g' o' i h:Nat} (p:Hs D x S w lo g o j t y k g' o') (hj:j < S.length) (hf:Qy D k y.items.length S[j]=i) (hi:i < y.items.length)
  (hh:y.vi.ownBlock=some h):∃k':Nat,Qk (D[k]'p.rdi.rng) y.n i=k'∧Hs D x S w lo g o (j+1) (t++ [i]) y.items[i] k' h (i*3):=by
 obtain ⟨k',e,r⟩:=p.rdi.next hj hf hi
 have hrow:=p.own.row
 obtain ⟨q,c,ev,hq⟩:=Jp hrow (by omega)
 have hqh:q=h:=by rw [hq] at hh;exact Fz hh
 subst hqh
 rw [ev] at hrow
 have hcell:∀u,u < 3→∀val,(Ze y.items[i])[u]?=some val→w.cell? ⟨q,i*3+u,none⟩=some val:=fun u hu val hv=> by
  have hc:=hrow.cellAt (i*3+u) (by have:=Nat.mul_le_mul_right 3 (show i+1≤y.items.length by omega);omega)
  rw [hc,Vo Ze 3 Qj y.items i u hi hu]
  exact hv
 refine ⟨k',e,?_,p.own.its _ (Fw hi),r,?_,?_,hcell 0 (by omega) _ rfl,hcell 1 (by omega) _ rfl,hcell 2 (by omega) _ rfl,fun P z hz=> ?_⟩
 ·rw [VM.sub_append p.sub,VM.sub_at hi,VM.sub_nil]
 ·exact VM.adr_append p.sub hi hq p.pre
 ·intro z s j' t' et es
  rcases List.append_eq_append_iff.1 et with ⟨u,e1,e2⟩|⟨u,e1,e2⟩
  ·cases u with
   |nil=>
    rw [List.append_nil] at e1
    subst e1
    rw [p.sub] at es
    cases es
    rw [hq];simp
   |cons a u=> simp at e2
  ·cases u with
   |nil=>
    rw [List.append_nil] at e1
    subst e1
    rw [p.sub] at es
    cases es
    rw [hq];simp
   |cons a u=>
    simp only [List.cons_append,List.cons.injEq] at e2
    exact p.pre z s a u e1 es
 ·rw [VM.put_append z p.sub]
  refine p.put P _ ?_
  have hl:y.d.items.length=y.items.length:=by rw [VM.items_d,List.length_map]
  rw [VM.put_d z y i hi,hz,List.drop_eq_getElem_cons hj,Pr (j:=i) (by rw [hl];exact hf) (by rw [hl];exact hi),VM.d_items_at hi,VM.n_d,Pu p.rdi.rng,e]
theorem Hs.start {D:List Zi} {x:VM} {S:List ByteArray} {w:World} {lo g o:Nat} (hx:x.own lo w) (hs:x.d.size≤4194304) (hv:Zn D (D.length - 1:Nat) x.d=true) (h0:w.cell? ⟨g,o,none⟩=some (.int .i64 x.n)) (h1:w.cell? ⟨g,o+1,none⟩=some x.vb) (h2:w.cell? ⟨g,o+2,none⟩=some x.vi):
  Hs D x S w lo g o 0 [] x (D.length - 1) g o:=
 ⟨rfl,hx,⟨hx.rd,hs,hv,rfl⟩,rfl,fun z s j' t' e=> by simp at e,h0,h1,h2,fun P z hz=> by rw [VM.put_nil];exact hz⟩
theorem Ir {D:List Zi} {r:Zi} (h:Zp D r=true) (hk:r.kind=5):r.kids.length=2:=by
 unfold Zp at h
 rw [hk] at h
 simp only [show ¬((5:Int)=1) by decide,show ¬((5:Int)=2) by decide,show ¬((5:Int)=3) by decide,show ¬((5:Int)=4) by decide,if_false,if_true,Bool.and_eq_true] at h
 have:=Tq (by decide) h.1
 omega
theorem kids_4 {D:List Zi} {r:Zi} (h:Zp D r=true) (hk:r.kind=4):r.kids.length=1:=by
 unfold Zp at h
 rw [hk] at h
 simp only [show ¬((4:Int)=1) by decide,show ¬((4:Int)=2) by decide,show ¬((4:Int)=3) by decide,if_false,if_true,Bool.and_eq_true] at h
 have:=Tq (by decide) h.1
 omega
theorem Lh {D:List Zi} {r:Zi} (h:Zp D r=true) (hk:r.kind=7):r.kids.length=r.tags.length+1:=by
 unfold Zp at h
 rw [hk] at h
 simp only [show ¬((7:Int)=1) by decide,show ¬((7:Int)=2) by decide,show ¬((7:Int)=3) by decide,show ¬((7:Int)=4) by decide,show ¬((7:Int)=5) by decide,show ¬((7:Int)=6) by decide,if_false,if_true,Bool.and_eq_true] at h
 have h2:=h.2
 unfold Yu at h2
 simp only [Bool.and_eq_true,beq_iff_eq] at h2
 omega
theorem Lg {D:List Zi} {r:Zi} (h:Zp D r=true) (hk:r.kind=8∨r.kind=9):r.kids.length=1:=by
 unfold Zp at h
 rw [if_neg (by omega),if_neg (by omega),if_neg (by omega),if_neg (by omega),if_neg (by omega),if_neg (by omega),if_neg (by omega),if_pos hk] at h
 have:=Tq (by decide) h
 omega
theorem Fk {r:Zi} {n:Int} {i:Nat} (h:r.kind=5):Qk r n i=Xt r 1:=by unfold Qk;rw [if_pos h]
theorem Fj {r:Zi} {n:Int} {i:Nat} (h:r.kind=6) (hi:i < r.kids.length):Qk r n i=r.kids[i]:=by unfold Qk;rw [if_neg (by omega),if_pos h,if_pos hi,Jb r i hi]
theorem itemR_6' {r:Zi} {n:Int} {i:Nat} (h:r.kind=6) (hi:¬i < r.kids.length):Qk r n i= -1:=by unfold Qk;rw [if_neg (by omega),if_pos h,if_neg hi]
theorem Kj {r:Zi} {n:Int} {i k:Nat} (h:r.kind=7) (hk:Tn r n=k):Qk r n i=Xt r (k+1):=by
 unfold Qk;rw [if_neg (by omega),if_neg (by omega),if_pos h,hk,if_neg (by omega),Int.toNat_natCast]
theorem Pf {r:Zi} {n:Int} {i:Nat} (h:r.kind=7) (hk:Tn r n= -1):Qk r n i= -1:=by
 unfold Qk;rw [if_neg (by omega),if_neg (by omega),if_pos h,hk,if_pos (by omega)]
theorem Pt {r:Zi} {n:Int} {i:Nat} (h:r.kind=8∨r.kind=9):Qk r n i=Xt r 0:=by
 unfold Qk;rw [if_neg (by omega),if_neg (by omega),if_neg (by omega),if_pos h]
theorem itemR_no {r:Zi} {n:Int} {i:Nat} (h5:r.kind≠5) (h6:r.kind≠6) (h7:r.kind≠7) (h8:r.kind≠8) (h9:r.kind≠9):Qk r n i= -1:=by
 unfold Qk;rw [if_neg h5,if_neg h6,if_neg h7,if_neg (by omega)]
theorem Vm (D:List Zi) (r:RM) (n:Int) (i:Nat) (B:Nat) (w:World) (h:r.rd w B) (hB:B≤w.heap.size) (hk:Zp D r.d=true) (sm:r.d.small 1048576) (hi:i≤4194304):
  Calls prog 37 #[Ja r, .int .i64 n, .int .i64 i] w fun e w'=> e= .returned (.int .i64 (Qk r.d n i))∧Below w.heap.size w w':=by
 obtain ⟨Ab,cb,eb, -⟩:=h.b.open_
 obtain ⟨An,cn,en, -⟩:=h.n.one
 obtain ⟨At,ct,et,hct,hmt,htc⟩:=h.t.one
 obtain ⟨Ak,ck,ek,hck,hmk,hkc⟩:=h.k.one
 have s3:=sm.tags
 have s4:=sm.kids
 clear h
 unfold Ja
 rw [eb,en,et,ek]
 clear eb en et ek sm
 generalize r.d=d at*
 obtain ⟨cs,hcs⟩:∃cs:Array Value,cs= #[.string d.name, .int .i64 d.kind, .int .i64 d.size, .bool d.little, .slice Ab d.bytes.length cb, .slice An d.names.length cn, .slice At d.tags.length ct, .slice Ak d.kids.length ck]:=⟨_,rfl⟩
 have hbD:Below w.heap.size w (w.alloc (.cells cs 50)):=(Fv w.heap.size w).alloc (Fu _) _
 subst hcs
 have hkd:∀j (hj:j < d.kids.length),∃b off,Ak=some ⟨b,off,none⟩∧b < B∧(w.alloc (.cells #[.string d.name, .int .i64 d.kind, .int .i64 d.size, .bool d.little, .slice Ab d.bytes.length cb, .slice An d.names.length cn, .slice At d.tags.length ct, .slice Ak d.kids.length ck] 50)).cell? ⟨b,off+j,none⟩=some (.int .i64 (Xt d j)):=fun j hj=> by
  obtain ⟨b,off,e,hbB,hc0⟩:=hkc j hj
  exact ⟨b,off,e,hbB,by rw [Jb d j hj];exact Zc hc0 (hbD.mono hB) hbB⟩
 by_cases q5:d.kind=5
 ·have HX:=Fs (Fk (n:=n) (i:=i) q5)
  have hl:=Ir hk q5
  obtain ⟨b,off,rfl,hbB,hc1⟩:=hkd 1 (by omega)
  generalize Xt d 1=kv at*
  rw [hl] at hc1 hbD ⊢
  rw [q5] at hc1 hbD ⊢
  clear hkd hkc htc q5 hl hk
  go_enter func37,ntmps37
  go_wp2
  go_ret
  exact ⟨Qe HX.out.symm,hbD⟩
 have f5:(d.kind==5)=false:=beq_eq_false_iff_ne.2 q5
 by_cases q6:d.kind=6
 ·by_cases hik:i < d.kids.length
  ·have HX:=Fs ((Fj (n:=n) q6 hik).trans (Jb d i hik).symm)
   obtain ⟨b,off,rfl,hbB,hc1⟩:=hkd i hik
   generalize Xt d i=kv at*
   rw [q6] at hc1 hbD ⊢
   clear hkd hkc htc q5 q6 f5 hk
   go_enter func37,ntmps37
   go_wp2
   go_ret
   exact ⟨Qe HX.out.symm,hbD⟩
  ·have HX:=Fs (itemR_6' (n:=n) q6 hik)
   have hge:d.kids.length≤i:=by omega
   rw [q6] at hbD ⊢
   clear hkd hkc htc q5 q6 f5 hk hik
   go_enter func37,ntmps37
   go_wp2
   go_ret
   exact ⟨Qe HX.out.symm,hbD⟩
 have f6:(d.kind==6)=false:=beq_eq_false_iff_ne.2 q6
 by_cases q7:d.kind=7
 ·have hl:=Lh hk q7
  have H7:=Fs q7
  have htd:∀j (hj:j < d.tags.length),∃b off,At=some ⟨b,off,none⟩∧(w.alloc (.cells #[.string d.name, .int .i64 d.kind, .int .i64 d.size, .bool d.little, .slice Ab d.bytes.length cb, .slice An d.names.length cn, .slice At d.tags.length ct, .slice Ak d.kids.length ck] 50)).cell? ⟨b,off+j,none⟩=some (.int .i64 d.tags[j]):=fun j hj=> by
   obtain ⟨b,off,e,hbB,hc0⟩:=htc j hj
   exact ⟨b,off,e,Zc hc0 (hbD.mono hB) hbB⟩
  rw [q7] at hbD hkd htd ⊢
  have c6:(w.alloc (.cells #[.string d.name, .int .i64 7, .int .i64 d.size, .bool d.little, .slice Ab d.bytes.length cb, .slice An d.names.length cn, .slice At d.tags.length ct, .slice Ak d.kids.length ck] 50)).cell? ⟨w.heap.size,6,none⟩=some (.slice At d.tags.length ct):=by simp [go_sem]
  have c7:(w.alloc (.cells #[.string d.name, .int .i64 7, .int .i64 d.size, .bool d.little, .slice Ab d.bytes.length cb, .slice An d.names.length cn, .slice At d.tags.length ct, .slice Ak d.kids.length ck] 50)).cell? ⟨w.heap.size,7,none⟩=some (.slice Ak d.kids.length ck):=by simp [go_sem]
  have HH:=Fs (Ft hkd (Ft htd hbD))
  obtain ⟨W0,hW0⟩:∃W0,W0=w.alloc (.cells #[.string d.name, .int .i64 7, .int .i64 d.size, .bool d.little, .slice Ab d.bytes.length cb, .slice An d.names.length cn, .slice At d.tags.length ct, .slice Ak d.kids.length ck] 50):=⟨_,rfl⟩
  rw [←hW0] at HH c6 c7
  clear hkd htd hbD hkc htc q5 q6 q7 f5 f6 hk
  have HL:=Fs hl
  clear hl
  go_enter func37,ntmps37
  go_wp2
  rw [←hW0]
  clear hW0
  go_loop [7] (fun t=> ∃j:Nat,j≤d.tags.length∧t= .int .i64 j∧Hid (∀q (hq:q < j) (hl:q < d.tags.length),d.tags[q]≠n)) (fun t=> d.tags.length - (intOf t).toNat)
  case atStart=> exact ⟨0,Eb _,rfl,Fs (fun q hq=> by omega)⟩
  case round=>
   obtain ⟨j,hj,rfl,HN⟩:=hrel
   by_cases hlt:j < d.tags.length
   ·obtain ⟨b,off,rfl,hc1⟩:=HH.out.2.1 j hlt
    by_cases hn:d.tags[j]=n
    ·have HX:=Fs (Kj (i:=i) H7.out (Kw hlt hn fun q hq=> HN.out q hq (by omega)))
     obtain ⟨b2,off2,rfl, -,hc2⟩:=HH.out.1 (j+1) (by have:=HL.out;omega)
     have hlk:j+1 < d.kids.length:=by have:=HL.out;omega
     generalize Xt d (j+1)=kv at*
     have fe:(d.tags[j]==n)=true:=by rw [hn];simp
     clear hn
     go_wp2
     go_ret
     exact ⟨Qe HX.out.symm,HH.out.2.2⟩
    ·have fe:(d.tags[j]==n)=false:=beq_eq_false_iff_ne.2 hn
     have HM:=Fs (show ∀q (hq:q < j+1) (hl:q < d.tags.length),d.tags[q]≠n from fun q hq hl=> by
      by_cases e:q=j
      ·subst e;exact hn
      ·exact HN.out q (by omega) hl)
     clear hn
     go_wp2
     go_round
     case rel=> exact ⟨j+1,by omega,by go_num,HM⟩
     case measure=> simp [intOf];omega
   ·have HX:=Fs (Pf (i:=i) H7.out (tagAt_no (n:=n) fun q hq=> HN.out q (by omega) hq))
    go_wp2
    go_ret
    exact ⟨Qe HX.out.symm,HH.out.2.2⟩
 have f7:(d.kind==7)=false:=beq_eq_false_iff_ne.2 q7
 by_cases q8:d.kind=8
 ·have HX:=Fs (Pt (n:=n) (i:=i) (.inl q8))
  have hl:=Lg hk (.inl q8)
  obtain ⟨b,off,rfl,hbB,hc1⟩:=hkd 0 (by omega)
  rw [Nat.add_zero] at hc1
  generalize Xt d 0=kv at*
  rw [hl] at hc1 hbD ⊢
  rw [q8] at hc1 hbD ⊢
  clear hkd hkc htc q5 q6 q7 q8 f5 f6 f7 hl hk
  go_enter func37,ntmps37
  go_wp2
  go_ret
  exact ⟨Qe HX.out.symm,hbD⟩
 by_cases q9:d.kind=9
 ·have HX:=Fs (Pt (n:=n) (i:=i) (.inr q9))
  have hl:=Lg hk (.inr q9)
  obtain ⟨b,off,rfl,hbB,hc1⟩:=hkd 0 (by omega)
  rw [Nat.add_zero] at hc1
  generalize Xt d 0=kv at*
  rw [hl] at hc1 hbD ⊢
  rw [q9] at hc1 hbD ⊢
  clear hkd hkc htc q5 q6 q7 q8 q9 f5 f6 f7 hl hk
  go_enter func37,ntmps37
  go_wp2
  go_ret
  exact ⟨Qe HX.out.symm,hbD⟩
 ·have HX:=Fs (itemR_no (n:=n) (i:=i) q5 q6 q7 q8 q9)
  have f8:(d.kind==8)=false:=beq_eq_false_iff_ne.2 q8
  have f9:(d.kind==9)=false:=beq_eq_false_iff_ne.2 q9
  clear hkd hkc htc q5 q6 q7 q8 q9 hk
  go_enter func37,ntmps37
  go_wp2
  go_ret
  exact ⟨Qe HX.out.symm,hbD⟩
end Go.Proofs.YteldgdelmaeokaaGreatDoor
