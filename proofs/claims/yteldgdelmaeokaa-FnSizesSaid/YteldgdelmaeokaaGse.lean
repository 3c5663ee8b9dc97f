/- Out of DescSizes, DepW: the walks and plain laws that the claim needs. No condition but those that each theorem names. -/
import Derived.Test.YteldgdelmaeokaaGsb
import Derived.Test.YteldgdelmaeokaaGsc
import Derived.Test.YteldgdelmaeokaaGsd
import Derived.WalkSpells
import Derived.WalkLawsBesides
import Derived.Test.YteldgdelmaeokaaGda
import Derived.Test.YteldgdelmaeokaaGsa
import Derived.IntWalk
import Derived.Deep.RegionHeld3
import Derived.Deep.DeepCutAuto
set_option linter.unusedSimpArgs false
set_option linter.unusedVariables false
namespace Go.Proofs.Yteldgdelmaeokaa
open Go.RowKit
theorem run_index_row {P:Program} {t e:TypeId} {n:Nat} {d:TypeDesc} (ht:P.underlying t=some (.array n e)) (he:P.underlying e=some d) (hd:(match d with| .struct _| .array _ _=> true| _=> false)=false) (hs:∀w,(sizeOf e).run P w= .ok 1 w)
  (cs:Array Value) (v:Value) (i:Nat) (h:(i:Int) < n) (hc:cs[i]?=some v) (w:World):(Instr.index t (.agg cs) (.int .i64 i)).run P w= .ok v w:=by
 have hagg:(isAgg e).run P w= .ok false w:=by
  unfold isAgg
  rw [Sem.run_bind,run_underlying he w]
  cases d <;> simp_all
 simp [Instr.index,asIntOf,Sem.run_bind,run_underlying ht,h,hs,part,hagg,hc]
 intro hle
 omega
theorem tab_at {o:List Int} {k:Nat} (h:k < o.length):(tabL o).toArray[k]?=some (.int .i64 o[k]):=by
 rw [List.getElem?_toArray,tabL,List.getElem?_append_left (by simpa using h)]
 simp [h]
theorem minSz_bd (D:List RuleD) (i:Int):0≤minSz D i∧minSz D i≤401:=by
 unfold minSz
 split
 ·exact at0_bd (mins_bd (knownD_valid ‹_›) _ (Nat.le_refl _)) (by omega) i
 ·omega
theorem maxSz_bd (D:List RuleD) (i:Int):0≤maxSz D i∧maxSz D i≤400:=by
 unfold maxSz
 split
 ·have:=at0_bd (maxsI_bd (knownD_valid ‹_›) _ (Nat.le_refl _)) (by omega) i
  omega
 ·omega
def fixedB (D:List RuleD) (i:Int):Bool:=decide (0 < minSz D i) && (minSz D i==maxSz D i && decide (minSz D i < 400))
set_option maxHeartbeats 2000000 in
theorem implMinSize_any (v:Value) (l:List RM) (i:Int) (B:Nat) (w:World) (h:SlD w B v l) (hB:B≤w.heap.size) (ok:∀r∈l,r.d.ok) (sm:∀r∈l,r.d.small 1048576):
  Calls Try.prog 7 #[.agg #[v], .int .i64 i] w fun e w'=> e= .returned (.int .i64 (minSz (l.map RM.d) i))∧Below w.heap.size w w':=by
 have hK:∀W,Below w.heap.size w W→Calls Try.prog 16 #[.agg #[v], .int .i64 i] W fun e w'=> e= .returned (.bool (knownD (l.map RM.d) i))∧Below W.heap.size W w':=fun W hb=>
  implKnown_any v l i B W (h.below (hb.mono hB)) (by have:=hb.size;omega) ok sm
 have hT:∀W,Below w.heap.size w W→validD (l.map RM.d)=true→Calls Try.prog 17 #[.agg #[v]] W (fun e w'=> e= .returned (.agg (tabL (mins (l.map RM.d) l.length)).toArray)∧Below W.heap.size W w'):=fun W hb hv=>
  leastSizes_any v l B W (h.below (hb.mono hB)) (by have:=hb.size;omega) hv
 obtain ⟨A,c,rfl,hc,hm, -⟩:=h.open_
 unfold maxLen at hm
 have hbD:=Below.allocW w (.cells #[.slice A l.length c] 26) (Nat.le_refl _)
 have cD:(w.alloc (.cells #[.slice A l.length c] 26)).cell? ⟨w.heap.size,0,none⟩=some (.slice A l.length c):=by simp [go_sem]
 cases hk:knownD (l.map RM.d) i
 ·have HX:=Lib.hid (show minSz (l.map RM.d) i=0 by unfold minSz;rw [hk];rfl)
  rw [hk] at hK
  have HK:=Lib.hid hK
  clear hK hk h hT
  go_enter Try.func7,Try.ntmps7
  go_wp2_with fail
  refine (HK.out _ hbD).mono ?_
  rintro e w1 ⟨rfl,bel⟩
  have b1:=below_step bel hbD
  clear bel
  go_wp2
  go_ret
  exact ⟨ret_int HX.out.symm,b1⟩
 ·obtain ⟨h0,h1⟩:=knownD_at hk
  have hv:=knownD_valid hk
  rw [List.length_map] at h1
  obtain ⟨k,rfl⟩:=Int.eq_ofNat_of_zero_le h0
  have hkl:k < l.length:=by omega
  have hlen:=(validD_facts hv).1
  rw [List.length_map] at hlen
  have hml:=mins_length (l.map RM.d) l.length
  have HX:=Lib.hid (show minSz (l.map RM.d) (k:Int)=at0 (mins (l.map RM.d) l.length) (k:Int) by unfold minSz;rw [if_pos hk,List.length_map])
  rw [hk] at hK
  have HK:=Lib.hid hK
  have HT:=Lib.hid fun W hb=> hT W hb hv
  clear hK hk h hT hv ok sm
  generalize mins (l.map RM.d) l.length=mo at*
  have hkm:k < mo.length:=by omega
  have ha:at0 mo (k:Int)=mo[k]:=at0_at mo k (by omega) hkm
  rw [ha] at HX
  go_enter Try.func7,Try.ntmps7
  go_wp2_with fail
  refine (HK.out _ hbD).mono ?_
  rintro e w1 ⟨rfl,bel⟩
  have b1:=below_step bel hbD
  have cE:=cell_later bel cD
  clear bel cD ha
  go_wp2_with fail
  refine (HT.out _ b1).mono ?_
  rintro e w2 ⟨rfl,bel⟩
  have b2:=below_step bel b1
  have hidx:=run_index_row (P:=Try.prog) Try.underlying47 Try.underlying3 rfl Try.sizeOf3 (tabL mo).toArray _ k (by omega) (tab_at hkm)
  generalize mo[k]=z at*
  generalize (tabL mo).toArray=tb at*
  clear bel hml hkm
  go_wp2
  go_ret
  exact ⟨ret_int HX.out.symm,b2⟩
set_option maxHeartbeats 2000000 in
theorem implMaxSize_any (v:Value) (l:List RM) (i:Int) (B:Nat) (w:World) (h:SlD w B v l) (hB:B≤w.heap.size) (ok:∀r∈l,r.d.ok) (sm:∀r∈l,r.d.small 1048576):
  Calls Try.prog 8 #[.agg #[v], .int .i64 i] w fun e w'=> e= .returned (.int .i64 (maxSz (l.map RM.d) i))∧Below w.heap.size w w':=by
 have hK:∀W,Below w.heap.size w W→Calls Try.prog 16 #[.agg #[v], .int .i64 i] W fun e w'=> e= .returned (.bool (knownD (l.map RM.d) i))∧Below W.heap.size W w':=fun W hb=>
  implKnown_any v l i B W (h.below (hb.mono hB)) (by have:=hb.size;omega) ok sm
 have hT:∀W,Below w.heap.size w W→validD (l.map RM.d)=true→Calls Try.prog 19 #[.agg #[v]] W (fun e w'=> e= .returned (.agg (tabL (maxsI (l.map RM.d) l.length)).toArray)∧Below W.heap.size W w'):=fun W hb hv=>
  greatestSizes_any v l B W (h.below (hb.mono hB)) (by have:=hb.size;omega) hv ok
 obtain ⟨A,c,rfl,hc,hm, -⟩:=h.open_
 unfold maxLen at hm
 have hbD:=Below.allocW w (.cells #[.slice A l.length c] 26) (Nat.le_refl _)
 have cD:(w.alloc (.cells #[.slice A l.length c] 26)).cell? ⟨w.heap.size,0,none⟩=some (.slice A l.length c):=by simp [go_sem]
 cases hk:knownD (l.map RM.d) i
 ·have HX:=Lib.hid (show maxSz (l.map RM.d) i=0 by unfold maxSz;rw [hk];rfl)
  rw [hk] at hK
  have HK:=Lib.hid hK
  clear hK hk h hT
  go_enter Try.func8,Try.ntmps8
  go_wp2_with fail
  refine (HK.out _ hbD).mono ?_
  rintro e w1 ⟨rfl,bel⟩
  have b1:=below_step bel hbD
  clear bel
  go_wp2
  go_ret
  exact ⟨ret_int HX.out.symm,b1⟩
 ·obtain ⟨h0,h1⟩:=knownD_at hk
  have hv:=knownD_valid hk
  rw [List.length_map] at h1
  obtain ⟨k,rfl⟩:=Int.eq_ofNat_of_zero_le h0
  have hkl:k < l.length:=by omega
  have hlen:=(validD_facts hv).1
  rw [List.length_map] at hlen
  have hml:=maxsI_length (l.map RM.d) l.length
  have HX:=Lib.hid (show maxSz (l.map RM.d) (k:Int)=min 400 (at0 (maxsI (l.map RM.d) l.length) (k:Int)) by unfold maxSz;rw [if_pos hk,List.length_map])
  rw [hk] at hK
  have HK:=Lib.hid hK
  have HT:=Lib.hid fun W hb=> hT W hb hv
  clear hK hk h hT hv ok sm
  generalize maxsI (l.map RM.d) l.length=mo at*
  have hkm:k < mo.length:=by omega
  have ha:at0 mo (k:Int)=mo[k]:=at0_at mo k (by omega) hkm
  rw [ha] at HX
  go_enter Try.func8,Try.ntmps8
  go_wp2_with fail
  refine (HK.out _ hbD).mono ?_
  rintro e w1 ⟨rfl,bel⟩
  have b1:=below_step bel hbD
  have cE:=cell_later bel cD
  clear bel cD ha
  go_wp2_with fail
  refine (HT.out _ b1).mono ?_
  rintro e w2 ⟨rfl,bel⟩
  have b2:=below_step bel b1
  have hidx:=run_index_row (P:=Try.prog) Try.underlying47 Try.underlying3 rfl Try.sizeOf3 (tabL mo).toArray _ k (by omega) (tab_at hkm)
  generalize mo[k]=z at*
  generalize (tabL mo).toArray=tb at*
  clear bel hml hkm
  go_wp2_with (go_at_call 18;refine (iMin_any _ _ _).mono ?_;rintro e w3 ⟨rfl,bel3⟩;have b3:=below_step bel3 b2;clear bel3)
  go_ret
  exact ⟨ret_int HX.out.symm,b3⟩
set_option maxHeartbeats 2000000 in
theorem implFixed_any (v:Value) (l:List RM) (i:Int) (B:Nat) (w:World) (h:SlD w B v l) (hB:B≤w.heap.size) (ok:∀r∈l,r.d.ok) (sm:∀r∈l,r.d.small 1048576):
  Calls Try.prog 9 #[.agg #[v], .int .i64 i] w fun e w'=> e= .returned (.bool (fixedB (l.map RM.d) i))∧Below w.heap.size w w':=by
 have hN:∀W,Below w.heap.size w W→Calls Try.prog 7 #[.agg #[v], .int .i64 i] W fun e w'=> e= .returned (.int .i64 (minSz (l.map RM.d) i))∧Below W.heap.size W w':=fun W hb=>
  implMinSize_any v l i B W (h.below (hb.mono hB)) (by have:=hb.size;omega) ok sm
 have hX:∀W,Below w.heap.size w W→Calls Try.prog 8 #[.agg #[v], .int .i64 i] W fun e w'=> e= .returned (.int .i64 (maxSz (l.map RM.d) i))∧Below W.heap.size W w':=fun W hb=>
  implMaxSize_any v l i B W (h.below (hb.mono hB)) (by have:=hb.size;omega) ok sm
 have HN:=Lib.hid hN
 have HX:=Lib.hid hX
 have hb1:=minSz_bd (l.map RM.d) i
 have hb2:=maxSz_bd (l.map RM.d) i
 have HF:=Lib.hid (show fixedB (l.map RM.d) i=(decide (0 < minSz (l.map RM.d) i) && (minSz (l.map RM.d) i==maxSz (l.map RM.d) i && decide (minSz (l.map RM.d) i < 400))) from rfl)
 obtain ⟨A,c,rfl,hc,hm, -⟩:=h.open_
 unfold maxLen at hm
 generalize minSz (l.map RM.d) i=m at*
 generalize maxSz (l.map RM.d) i=x at*
 have hbD:=Below.allocW w (.cells #[.slice A l.length c] 26) (Nat.le_refl _)
 have cD:(w.alloc (.cells #[.slice A l.length c] 26)).cell? ⟨w.heap.size,0,none⟩=some (.slice A l.length c):=by simp [go_sem]
 clear hN hX h ok sm
 by_cases h0:0 < m
 ·have HG:=Lib.hid (HF.out.trans (show _=(m==x && decide (m < 400)) by rw [decide_eq_true h0];rfl))
  cases he:(m==x)
  ·have HY:=Lib.hid (HG.out.trans (show _=false by rw [he];rfl))
   have HE:=Lib.hid he
   clear he
   go_enter Try.func9,Try.ntmps9
   go_wp2_with fail
   refine (HN.out _ hbD).mono ?_
   rintro e w1 ⟨rfl,bel⟩
   have b1:=below_step bel hbD
   have cE:=cell_later bel cD
   clear bel cD
   go_wp2_with fail
   refine (HX.out _ b1).mono ?_
   rintro e w2 ⟨rfl,bel⟩
   have b2:=below_step bel b1
   have he:=HE.out
   clear bel
   go_wp2
   go_ret
   exact ⟨ret_bool HY.out.symm,b2⟩
  ·have HY:=Lib.hid (HG.out.trans (show _=decide (m < 400) by rw [he];rfl))
   have HE:=Lib.hid he
   clear he
   go_enter Try.func9,Try.ntmps9
   go_wp2_with fail
   refine (HN.out _ hbD).mono ?_
   rintro e w1 ⟨rfl,bel⟩
   have b1:=below_step bel hbD
   have cE:=cell_later bel cD
   clear bel cD
   go_wp2_with fail
   refine (HX.out _ b1).mono ?_
   rintro e w2 ⟨rfl,bel⟩
   have b2:=below_step bel b1
   have he:=HE.out
   clear bel
   go_wp2
   go_ret
   exact ⟨ret_bool HY.out.symm,b2⟩
 ·have HY:=Lib.hid (HF.out.trans (show _=false by rw [decide_eq_false h0];rfl))
  go_enter Try.func9,Try.ntmps9
  go_wp2_with fail
  refine (HN.out _ hbD).mono ?_
  rintro e w1 ⟨rfl,bel⟩
  have b1:=below_step bel hbD
  clear bel cD
  go_wp2
  go_ret
  exact ⟨ret_bool HY.out.symm,b1⟩
end Go.Proofs.Yteldgdelmaeokaa
namespace Go.Proofs.Yteldgdelmaeokaa
open Go.RowKit
theorem Tab.zero' {W:World} {T:Nat} {o:List Int} (h:Tab W T o) (hl:o.length < 24):Tab W T (o++ [0]):=by
 unfold Tab at h ⊢
 rw [h]
 congr 3
 unfold tabL
 rw [List.map_append,List.length_append,List.append_assoc,show 24 - o.length=(24 - (o.length+1))+1 by omega,List.replicate_succ]
 rfl
theorem Tab.put {W:World} {T:Nat} {o:List Int} {x:Int} (h:Tab W T (o++ [x])) (y:Int):Tab (W.setCell ⟨T,o.length,none⟩ (.int .i64 y)) T (o++ [y]):=by
 unfold Tab
 rw [heap_setCell_same W T _ _ _ _ h]
 congr 2
 apply Array.ext'
 simp only [Array.toList_setIfInBounds,tabL,List.map_append,List.map_cons,List.map_nil,List.length_append,List.length_cons,List.length_nil]
 rw [List.set_append_left _ _ (by simp),List.set_append_right _ _ (by simp)]
 simp
theorem Tab.last {W:World} {T:Nat} {o:List Int} {x:Int} (h:Tab W T (o++ [x])):W.cell? ⟨T,o.length,none⟩=some (.int .i64 x):=by
 have:=h.cell o.length (by simp)
 simpa using this
theorem Tab.old {W:World} {T:Nat} {o:List Int} {x:Int} (h:Tab W T (o++ [x])) {j:Nat} (hj:j < o.length):W.cell? ⟨T,j,none⟩=some (.int .i64 o[j]):=by
 have:=h.cell j (by simp;omega)
 rwa [List.getElem_append_left hj] at this
theorem dpTo_bd {M:Int} {o:List Int} (h:inM M o) (hM:0≤M) (ks:List Int):∀n,0≤dpTo o ks n∧dpTo o ks n≤M
 |0=> ⟨Int.le_refl _,hM⟩
 |n+1=> by
  have h1:=dpTo_bd h hM ks n
  have h2:=at0_bd h hM (ks.getD n 0)
  rw [dpTo]
  omega
theorem deps_bd (D:List RuleD):∀k:Nat,inM k (deps D k)
 |0=> fun x hx=> by cases hx
 |k+1=> fun x hx=> by
  have ih:=deps_bd D k
  rw [deps,List.mem_append,List.mem_singleton] at hx
  rcases hx with hx|rfl
  ·have:=ih x hx;omega
  ·have:=dpTo_bd ih (by omega) (D.getD k default).kids (D.getD k default).kids.length
   omega
set_option maxHeartbeats 4000000 in
set_option maxRecDepth 100000 in
theorem implDepth_any (v:Value) (l:List RM) (i:Int) (B:Nat) (w:World) (h:SlD w B v l) (hB:B≤w.heap.size) (ok:∀r∈l,r.d.ok) (sm:∀r∈l,r.d.small 1048576):
  Calls Try.prog 10 #[.agg #[v], .int .i64 i] w fun e w'=> e= .returned (.int .i64 (depOf (l.map RM.d) i))∧Below w.heap.size w w':=by
 have hK:∀W,Below w.heap.size w W→Calls Try.prog 16 #[.agg #[v], .int .i64 i] W fun e w'=> e= .returned (.bool (knownD (l.map RM.d) i))∧Below W.heap.size W w':=fun W hb=>
  implKnown_any v l i B W (h.below (hb.mono hB)) (by have:=hb.size;omega) ok sm
 obtain ⟨A,c,rfl,hc,hm, -⟩:=h.open_
 unfold maxLen at hm
 have hbD:=Below.allocW w (.cells #[.slice A l.length c] 26) (Nat.le_refl _)
 have cD:(w.alloc (.cells #[.slice A l.length c] 26)).cell? ⟨w.heap.size,0,none⟩=some (.slice A l.length c):=by simp [go_sem]
 cases hk:knownD (l.map RM.d) i
 ·have HX:=Lib.hid (show depOf (l.map RM.d) i=0 by unfold depOf;rw [hk];rfl)
  rw [hk] at hK
  have HK:=Lib.hid hK
  clear hK hk h
  go_enter Try.func10,Try.ntmps10
  go_wp2_with fail
  refine (HK.out _ hbD).mono ?_
  rintro e w1 ⟨rfl,bel⟩
  have b1:=below_step bel hbD
  clear bel
  go_wp2
  go_ret
  exact ⟨ret_int HX.out.symm,b1⟩
 ·obtain ⟨h0,h1⟩:=knownD_at hk
  have hv:=knownD_valid hk
  rw [List.length_map] at h1
  obtain ⟨i0,rfl⟩:=Int.eq_ofNat_of_zero_le h0
  have hil:i0 < l.length:=by omega
  have hF:=validD_facts hv
  have hlen:=hF.1
  rw [List.length_map] at hlen
  have hR:∀k (hk:k < l.length),(∀x∈l[k].d.kids,0≤x∧x < k)∧(∀W,Below w.heap.size w W→SlI W B l[k].vk l[k].d.kids)∧(l.map RM.d).getD k default=l[k].d:=fun k hk=> by
   refine ⟨?_,fun W hb=> ((h.2 l[k] (List.getElem_mem hk)).below (hb.mono hB)).k,?_⟩
   ·have:=hF.2 k (by simpa using hk)
    rw [List.getElem_map] at this
    exact this.kids
   ·rw [getD_at (by simpa using hk),List.getElem_map]
  have HX:=Lib.hid (show depOf (l.map RM.d) (i0:Int)=at0 (deps (l.map RM.d) l.length) (i0:Int) by unfold depOf;rw [if_pos hk,List.length_map])
  have hcl:=fun k hk=> rule_cells h k hk
  have HR:=Lib.hid hR
  have HC:=Lib.hid hcl
  have HBD:=Lib.hid (deps_bd (l.map RM.d))
  have HDL:=Lib.hid (deps_length (l.map RM.d))
  rw [hk] at hK
  have HK:=Lib.hid hK
  clear hK hk h hv ok sm hF hR hcl
  generalize l.map RM.d=D at*
  obtain ⟨zt,hzt⟩:∃z,z=(tabL []).toArray:=⟨_,rfl⟩
  have hzl:zt= #[.int .i64 0, .int .i64 0, .int .i64 0, .int .i64 0, .int .i64 0, .int .i64 0, .int .i64 0, .int .i64 0, .int .i64 0, .int .i64 0, .int .i64 0, .int .i64 0, .int .i64 0, .int .i64 0, .int .i64 0, .int .i64 0, .int .i64 0, .int .i64 0, .int .i64 0, .int .i64 0, .int .i64 0, .int .i64 0, .int .i64 0, .int .i64 0]:=by rw [hzt];rfl
  have HZL:=Lib.hid hzl
  have HZT:=Lib.hid hzt
  clear hzl hzt
  go_enter Try.func10,Try.ntmps10
  go_wp2_with fail
  refine (HK.out _ hbD).mono ?_
  rintro e w1 ⟨rfl,bel⟩
  have b1:=below_step bel hbD
  have cE:=cell_later bel cD
  have hz1:w.heap.size < w1.heap.size:=by have:=bel.size;simp at this;omega
  clear bel cD hbD
  have hTE:Tab (w1.alloc (.cells zt 47)) w1.heap.size []:=by rw [HZT.out];exact heap_alloc_new w1 _
  have h12:Below w1.heap.size w1 (w1.alloc (.cells zt 47)):=(Below.refl _ _).alloc (Nat.le_refl _) _
  have cF:=cell_later h12 cE
  have hz2:w1.heap.size < (w1.alloc (.cells zt 47)).heap.size:=by simp
  rw [HZL.out] at hTE h12 cF hz2
  go_upto_region 4 with fail
  generalize w1.alloc (.cells #[.int .i64 0, .int .i64 0, .int .i64 0, .int .i64 0, .int .i64 0, .int .i64 0, .int .i64 0, .int .i64 0, .int .i64 0, .int .i64 0, .int .i64 0, .int .i64 0, .int .i64 0, .int .i64 0, .int .i64 0, .int .i64 0, .int .i64 0, .int .i64 0, .int .i64 0, .int .i64 0, .int .i64 0, .int .i64 0, .int .i64 0, .int .i64 0] 47)=W2 at*
  clear HZL HZT
  have B1:=Lib.hid b1
  have CE:=Lib.hid cE
  have H12:=Lib.hid (And.intro h12 hTE)
  clear b1 cE h12 hTE
  go_wp2_with fail
  go_loopw [17] (fun i wr=> ∃k:Nat,k≤l.length∧i= .int .i64 k∧Below w1.heap.size w1 wr∧w1.heap.size < wr.heap.size∧Tab wr w1.heap.size (deps D k)) (fun i _=> l.length - (intOf i).toNat)
  case atStart=> exact ⟨0,Nat.zero_le _,rfl,H12.out.1,hz2,H12.out.2⟩
  case round=>
   obtain ⟨k,hk,rfl,hb,hz3,hTab⟩:=hrel
   clear cF hz2
   have cF:=cell_later (hb.mono (Nat.le_refl _)) CE.out
   have bw:=below_step hb B1.out
   by_cases hlt:k < l.length
   ·obtain ⟨b,off,A1,c1,A2,c2,A3,c3,A4,c4,rfl,hbB,e1,e2,e3,e4,m1,m2,m3,m4,hcell⟩:=HC.out k hlt
    obtain ⟨hkx,hrd,hgd⟩:=HR.out k hlt
    obtain ⟨x0,x1,x2,x3,x4,x5,x6,x7⟩:=hcell wr (below_cells bw hB)
    have hmlen:=HDL.out k
    have hob:=HBD.out k
    have hnx:deps D (k+1)=deps D k++ [dpTo (deps D k) l[k].d.kids l[k].d.kids.length+1]:=by rw [deps,hgd]
    have hkd:=(hrd w (Below.refl _ _)).one
    rw [e4] at hkd
    obtain ⟨A',c',e', -, -,hkc⟩:=hkd
    simp only [Value.slice.injEq] at e'
    obtain ⟨rfl, -,rfl⟩:=e'
    unfold maxLen at m4
    have hbw:b < w.heap.size:=by omega
    generalize deps D k=o at*
    have HNX:=Lib.hid hnx
    have HOB:=Lib.hid hob
    have HKC:=Lib.hid hkc
    have HKX:=Lib.hid hkx
    have HML:=Lib.hid hmlen
    have hk24:k < 24:=by omega
    have W3b:Below wr.heap.size wr (wr.alloc (.cells #[.string l[k].d.name, .int .i64 l[k].d.kind, .int .i64 l[k].d.size, .bool l[k].d.little, .slice A1 l[k].d.bytes.length c1, .slice A2 l[k].d.names.length c2, .slice A3 l[k].d.tags.length c3, .slice A4 l[k].d.kids.length c4] 38)):=(Below.refl _ _).alloc (Nat.le_refl _) _
    have H3:=Lib.hid (And.intro (hb.trans (W3b.mono (by omega))) (And.intro ((hTab.zero' (by omega)).later W3b) (Nat.lt_of_lt_of_le hz3 W3b.size)))
    have HB:=Lib.hid (And.intro hb hTab)
    clear hnx hob hkc hkx hmlen hcell hrd hgd e1 e2 e3 e4 m1 m2 m3 W3b hb hTab
    go_wp2_with fail
    go_loopw [25] (fun q wq=> ∃j:Nat,j≤l[k].d.kids.length∧q= .int .i64 j∧Below w1.heap.size w1 wq∧w1.heap.size < wq.heap.size∧Tab wq w1.heap.size (o++ [dpTo o l[k].d.kids j])) (fun q _=> l[k].d.kids.length - (intOf q).toNat)
    case atStart=> exact ⟨0,Nat.zero_le _,rfl,H3.out.1,H3.out.2.2,H3.out.2.1⟩
    case round=>
     obtain ⟨j,hj,rfl,hb,hz5,hTab⟩:=hrel
     clear x0 x1 x2 x3 x4 x5 x6 x7 cF bw
     have bw:=below_step hb B1.out
     have hdb:=dpTo_bd HOB.out (by omega) l[k].d.kids j
     have fx:=hTab.last
     have ff:=hTab.free k
     rw [HML.out] at fx
     by_cases hjl:j < l[k].d.kids.length
     ·obtain ⟨bk,ok,rfl,hbk,hcj⟩:=HKC.out j hjl
      have hxj:=HKX.out _ (List.getElem_mem hjl)
      have hgj:l[k].d.kids.getD j 0=l[k].d.kids[j]:=by simp [List.getD,hjl]
      have hns:dpTo o l[k].d.kids (j+1)=max (dpTo o l[k].d.kids j) (at0 o l[k].d.kids[j]):=by rw [dpTo,hgj]
      have HNS:=Lib.hid hns
      clear hns hgj
      generalize l[k].d.kids[j]=yj at*
      obtain ⟨nj,rfl⟩:=Int.eq_ofNat_of_zero_le hxj.1
      have hnj:nj < o.length:=by have:=HML.out;omega
      have fz:=hTab.old hnj
      have haj:at0 o ((nj:Nat):Int)=o[nj]:=at0_at o nj (by omega) hnj
      have hbj:=at0_bd HOB.out (by omega) ((nj:Nat):Int)
      rw [haj] at hbj HNS
      generalize o[nj]=z at*
      generalize dpTo o l[k].d.kids j=x at*
      have fk:=cell_keep hcj (bw.mono hB) hbk
      have hn24:nj < 24:=by have:=HML.out;omega
      have hn24':(nj:Int) < 24:=by omega
      have hk24':(k:Int) < 24:=by omega
      have HB5:=Lib.hid (And.intro hb hTab)
      have hbkw:bk < w.heap.size:=by omega
      clear hb hTab bw hcj haj hnj hxj
      go_wp2_with fail
      refine wp_region_x_drew (S:=(fun w9=> w9.cell? ⟨w1.heap.size,k,none⟩=some (.int .i64 x)∧w9.cell? ⟨w1.heap.size,nj,none⟩=some (.int .i64 z))) 9 (by kernel_rfl) ?_ (fun hHeld=> ?_)
      ·(try dsimp only);exact ⟨fx,fz⟩
      refine rxTake 0 (some 29) hHeld _ ?_;try go_frame
      refine rxTake 1 (some 30) hHeld _ ?_;try go_frame
      refine rxTake 2 (some 31) hHeld _ ?_;try go_frame
      refine rxTake 3 (some 32) hHeld _ ?_;try go_frame
      refine rxTake 4 (some 33) hHeld _ ?_;try go_frame
      refine rxTake 5 (some 34) hHeld _ ?_;try go_frame
      refine rxTake 6 (some 35) hHeld _ ?_;try go_frame
      refine rxStep 7 (fun K hK=> ?_)
      go_simp
      refine (iMax_any _ _ _).mono ?_;rintro e w6 ⟨rfl,bel6⟩;have fx:=cell_later bel6 fx;have fz:=cell_later bel6 fz;have bq:=below_step bel6 (Below.refl wr.heap.size wr).drew;have ht6:=HB5.out.2.later bq;have ff:=ht6.free k
      (try go_wp2_with fail)
      refine hK.out _ _ ?_ (fun hHeld=> ?_)
      ·(try dsimp only);exact ⟨fx,fz⟩
      clear hK K
      try go_frame
      refine rxTake 8 (some 37) hHeld _ ?_;try go_frame
      refine rxLast (fun K hK=> ?_)
      (try go_simp)
      go_simp
      refine hK.out _ _ ?_
      clear hK K
      try go_frame
      refine wpAnyX_done (by kernel_rfl) ?_ _
      have hb7:=(HB5.out.1.trans (bq.mono (by omega))).setCell (p:=⟨w1.heap.size,k,none⟩) (Nat.le_refl _) (.int .i64 (max x z))
      have ht7:=ht6.put (max x z)
      rw [HML.out] at ht7
      have ht7:Tab (w6.setCell ⟨w1.heap.size,k,none⟩ (.int .i64 (max x z))) w1.heap.size (o++ [dpTo o l[k].d.kids (j+1)]):=by rw [HNS.out];exact ht7
      have hz7:w1.heap.size < (w6.setCell ⟨w1.heap.size,k,none⟩ (.int .i64 (max x z))).heap.size:=by have:=bq.size;simp;omega
      have H7:=Lib.hid (And.intro hb7 (And.intro hz7 ht7))
      clear hb7 ht7 hz7 ht6 bq hHeld
      go_wp2
      go_roundw
      case rel=> exact ⟨j+1,by omega,by go_num,H7.out.1,H7.out.2.1,H7.out.2.2⟩
      case measure=> simp [intOf];omega
     ·obtain rfl:j=l[k].d.kids.length:=by omega
      have ht7:=hTab.put (dpTo o l[k].d.kids l[k].d.kids.length+1)
      have hb7:=hb.setCell (p:=⟨w1.heap.size,k,none⟩) (Nat.le_refl _) (.int .i64 (dpTo o l[k].d.kids l[k].d.kids.length+1))
      rw [HML.out,←HNX.out] at ht7
      generalize dpTo o l[k].d.kids l[k].d.kids.length=x at*
      have hz7:w1.heap.size < (wr.setCell ⟨w1.heap.size,k,none⟩ (.int .i64 (x+1))).heap.size:=by simp;omega
      have H7:=Lib.hid (And.intro hb7 (And.intro hz7 ht7))
      clear hb7 ht7 hz7 hb hTab bw
      go_wp2
      go_roundw
      case rel=> exact ⟨k+1,by omega,by go_num,H7.out.1,H7.out.2.1,H7.out.2.2⟩
      case measure=> simp [intOf];omega
   ·obtain rfl:k=l.length:=by omega
    have hml:=HDL.out l.length
    have hi2:i0 < (deps D l.length).length:=by omega
    have fi:=hTab.cell i0 hi2
    have ha:at0 (deps D l.length) (i0:Int)=(deps D l.length)[i0]:=at0_at _ i0 (by omega) hi2
    have HR2:=Lib.hid (HX.out.trans ha)
    have hi24:i0 < 24:=by omega
    generalize (deps D l.length)[i0]=z at*
    have HB:=Lib.hid bw
    clear ha hml hi2 hTab hb bw cF
    go_wp2
    go_ret
    exact ⟨ret_int HR2.out.symm,HB.out⟩
end Go.Proofs.Yteldgdelmaeokaa
