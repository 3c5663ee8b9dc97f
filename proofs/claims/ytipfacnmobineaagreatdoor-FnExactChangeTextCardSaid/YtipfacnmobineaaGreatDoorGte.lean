/- Out of TxF, TxT, TxtL: the walks and plain laws that the claim needs. No condition but those that each theorem names. -/
import Derived.Test.YtipfacnmobineaaGreatDoorGtd
import Derived.Test.YtipfacnmobineaaGreatDoorGj
import Derived.WalkSpells
import Derived.WalkLawsBesides
import Derived.Deep.DeepCutAuto
import Derived.Test.YtipfacnmobineaaGreatDoorGtb
import Derived.Test.YtipfacnmobineaaGreatDoorGu
import Derived.Test.YtipfacnmobineaaGreatDoorGce
import Derived.Test.YtipfacnmobineaaGreatDoorGca
import Derived.Test.YtipfacnmobineaaGreatDoorGb
import Derived.Test.YtipfacnmobineaaGreatDoorGv
import Derived.Deep.RegionHeld3
import Derived.Sort.AtCall
import Derived.Test.YtipfacnmobineaaGreatDoorGn
set_option linter.unusedSimpArgs false
set_option linter.unusedVariables false
namespace Go.Proofs.YtipfacnmobineaaGreatDoor
open Go.RowKit
set_option maxHeartbeats 4000000 in
set_option maxRecDepth 100000 in
theorem implFormatValue_any (vD:Value) (l:List RM) (i:Int) (x:VM) (B:Nat) (w:World) (h:SlD w B vD l) (hB:B≤w.heap.size) (ok:∀r∈l,r.d.ok) (sm:∀r∈l,r.d.small 1048576) (hx:x.rd w B) (hs:x.d.size≤4194304) (ht:Tab w):
  Calls Tryz.prog 52 #[.agg #[vD], .int .i64 i,vmV x] w fun e w'=> e= .returned (.string (fmtV (l.map RM.d) i x.d))∧Below w.heap.size w w':=by
 have hV:=fun W (hb:Below w.heap.size w W)=> implValidValue_any vD l i x B W (h.below (hb.mono hB)) (by have:=hb.size;omega) ok sm (hx.bel (hb.mono hB)) hs
 have hT:(knownD (l.map RM.d) i && validV (l.map RM.d) i x.d)=true→∀W,Below w.heap.size w W→W.cell? ⟨w.heap.size+1,0,none⟩=some (.int .i64 x.n)→W.cell? ⟨w.heap.size+1,1,none⟩=some x.vb→W.cell? ⟨w.heap.size+1,2,none⟩=some x.vi→Calls Tryz.prog 71 #[.agg #[vD], .int .i64 i, .pointer (some ⟨w.heap.size+1,0,none⟩)] W fun e w'=> e= .returned (.string (textV (l.map RM.d) i x.d))∧Below W.heap.size W w':=fun hk W hb c0 c1 c2=> by
  simp only [Bool.and_eq_true] at hk
  obtain ⟨q,hq,rfl⟩:=validV_nat hk.2
  rw [List.length_map] at hq
  exact valueText_any x vD l q (w.heap.size+1) 0 B W (h.below (hb.mono hB)) (by have:=hb.size;omega) ok sm (knownD_valid hk.1) hq hk.2 (hx.bel (hb.mono hB)) hs (tab_on ht hb) c0 c1 c2
 obtain ⟨A,c,rfl, -, -, -⟩:=h.open_
 obtain ⟨Ax,cx,ex, -⟩:=hx.bytes.open_
 obtain ⟨Ay,cy,ey, -⟩:=hx.its.open_
 unfold vmV at hV ⊢
 rw [ex,ey] at hV hT ⊢
 unfold fmtV
 obtain ⟨W0,hW0⟩:∃W0,W0=((w.alloc (.cells #[.slice A l.length c] 40)).alloc (.cells #[.int .i64 x.n, .slice Ax x.b.length cx, .slice Ay x.items.length cy] 35)):=⟨_,rfl⟩
 have hb0:Below w.heap.size w W0:=by rw [hW0];exact ((Below.refl w.heap.size w).alloc (Nat.le_refl _) _).alloc (by simp) _
 have y0:W0.cell? ⟨w.heap.size,0,none⟩=some (.slice A l.length c):=by rw [hW0];simp [go_sem]
 have v0:W0.cell? ⟨w.heap.size+1,0,none⟩=some (.int .i64 x.n):=by rw [hW0];simp [go_sem]
 have v1:W0.cell? ⟨w.heap.size+1,1,none⟩=some (.slice Ax x.b.length cx):=by rw [hW0];simp [go_sem]
 have v2:W0.cell? ⟨w.heap.size+1,2,none⟩=some (.slice Ay x.items.length cy):=by rw [hW0];simp [go_sem]
 cases hk:(knownD (l.map RM.d) i && validV (l.map RM.d) i x.d)
 ·rw [hk] at hV
  have HV:=Lib.hid hV
  clear hV hT hk h hx ok sm ex ey hs
  generalize l.length=nl at*
  go_enter Tryz.func52,Tryz.ntmps52
  go_upto_region 1 with fail
  rw [←hW0]
  clear hW0
  go_wp2_with (go_at_call 61;refine (HV.out _ hb0).mono ?_;rintro e w1 ⟨rfl,bel⟩)
  have b1:=below_step bel hb0
  go_ret
  exact ⟨rfl,b1⟩
 ·have hT:=hT hk
  rw [hk] at hV
  have HV:=Lib.hid hV
  have HT:=Lib.hid hT
  clear hV hT hk h hx ok sm ex ey hs
  generalize textV (l.map RM.d) i x.d=T at*
  generalize l.length=nl at*
  go_enter Tryz.func52,Tryz.ntmps52
  go_upto_region 1 with fail
  rw [←hW0]
  clear hW0
  go_upto_region 3 with (go_at_call 61;refine (HV.out _ hb0).mono ?_;rintro e w1 ⟨rfl,bel⟩)
  have b1:=below_step bel hb0
  have y0:=cell_later bel y0
  have v0:=cell_later bel v0
  have v1:=cell_later bel v1
  have v2:=cell_later bel v2
  clear bel hb0
  go_wp2_with (go_at_call 71;refine (HT.out _ b1 v0 v1 v2).mono ?_;rintro e w2 ⟨rfl,bel⟩)
  have b2:=below_step bel b1
  go_ret
  exact ⟨rfl,b2⟩
end Go.Proofs.YtipfacnmobineaaGreatDoor
namespace Go.Proofs.YtipfacnmobineaaGreatDoor
open Go.RowKit
def pText (s:ByteArray):ByteArray:=if s.toList== [] then ⟨#[46]⟩ else s
theorem pathText_any (s:ByteArray) (w:World):
  Calls Tryz.prog 51 #[.string s] w fun e w'=> e= .returned (.string (pText s))∧w=w':=by
 cases he:(s.toList== [])
 ·have H:=Lib.hid (show pText s=s by rw [pText,he];rfl)
  go_enter Tryz.func51,Tryz.ntmps51
  go_wp2
  go_ret
  exact ⟨ret_str (by rw [H.out]),rfl⟩
 ·have H:=Lib.hid (show pText s=⟨#[46]⟩ by rw [pText,he];rfl)
  go_enter Tryz.func51,Tryz.ntmps51
  go_wp2
  go_ret
  exact ⟨ret_str (by rw [H.out]),rfl⟩
def chgT (D:List RuleD) (X:Val) (C:ChD):ByteArray:=
 match findV D X (spOk isStep C.path) (spL isStep C.path) with
 |(_,k,true)=> pText C.path++⟨#[61]⟩++fmtV D k C.part
 |(_,_,false)=> ⟨#[]⟩
theorem fmtV_bd {D:List RuleD} (hr:∀r∈D,r.ok) (sm:∀r∈D,total r.names≤1048576) (k:Int) (x:Val) (hs:x.size≤4194304):(fmtV D k x).size≤35184372088832:=by
 unfold fmtV
 split
 ·rename_i h
  simp only [Bool.and_eq_true] at h
  obtain ⟨q,hq,rfl⟩:=validV_nat h.2
  have:=textV_size hr sm x q hq h.2
  omega
 ·exact Nat.zero_le _
theorem pText_bd (s:ByteArray):(pText s).size≤s.size+1:=by
 unfold pText
 split
 ·show 1≤_;omega
 ·omega
set_option maxHeartbeats 8000000 in
set_option maxRecDepth 100000 in
theorem specChangeText_any (vD:Value) (l:List RM) (x:VM) (q:CM) (B:Nat) (w:World) (h:SlD w B vD l) (hB:B≤w.heap.size) (ok:∀r∈l,r.d.ok) (sm:∀r∈l,r.d.small 1048576) (hx:x.rd w B) (hs:x.d.size≤1048576) (hq:q.part.rd w B) (hqs:q.d.size≤1048576):
  Calls Tryz.prog 25 #[.agg #[vD],vmV x,cmV q] w fun e w'=> e= .returned (.string (chgT (l.map RM.d) x.d q.d))∧Below w.heap.size w w':=by
 have hqz:q.path.size+q.part.d.size≤1048576:=hqs
 have hF:=fun W (hb:Below w.heap.size w W)=> specFind_any vD l x q.path B W (h.below (hb.mono hB)) (by have:=hb.size;omega) ok sm (hx.bel (hb.mono hB)) (by omega) (by omega)
 have hM:=fun (i:Int) W (hb:Below w.heap.size w W)=> specFormatValue_any vD l i q.part B W (h.below (hb.mono hB)) (by have:=hb.size;omega) ok sm (hq.bel (hb.mono hB)) (by omega)
 have hokD:∀r∈l.map RM.d,r.ok:=fun r hr=> by obtain ⟨q,hq,rfl⟩:=List.mem_map.1 hr;exact ok q hq
 have hsmD:∀r∈l.map RM.d,total r.names≤1048576:=fun r hr=> by obtain ⟨q,hq,rfl⟩:=List.mem_map.1 hr;exact (sm q hq).total
 have hTZ:=fun (i:Int)=> fmtV_bd hokD hsmD i q.part.d (by omega)
 have hPZ:=pText_bd q.path
 obtain ⟨A,c,rfl, -, -, -⟩:=h.open_
 obtain ⟨Ax,cx,ex, -⟩:=hx.bytes.open_
 obtain ⟨Ay,cy,ey, -⟩:=hx.its.open_
 obtain ⟨Aq,cq,eq, -⟩:=hq.bytes.open_
 obtain ⟨Ar,cr,er, -⟩:=hq.its.open_
 unfold vmV at hF hM ⊢
 unfold cmV
 rw [eq,er] at hM ⊢
 rw [ex,ey] at hF ⊢
 unfold chgT
 simp only [CM.d_path,CM.d_part]
 generalize findV (l.map RM.d) x.d (spOk isStep q.path) (spL isStep q.path)=f at*
 obtain ⟨FX,fk,fb⟩:=f
 replace hM:=hM fk
 replace hTZ:=hTZ fk
 (try dsimp only at hF)
 generalize hTT:fmtV (l.map RM.d) fk q.part.d=T at*
 have HF:=Lib.hid hF
 have HM:=Lib.hid hM
 clear hF hM h hx hq ok sm ex ey eq er hs hokD hsmD hqs
 generalize q.path=P at*
 generalize q.part.n=qn at*
 generalize q.part.b.length=qb at*
 generalize q.part.items.length=qi at*
 generalize x.n=xn at*
 generalize x.b.length=xb at*
 generalize x.items.length=xi at*
 generalize l.length=nl at*
 obtain ⟨W0,hW0⟩:∃W0,W0=(((w.alloc (.cells #[.slice A nl c] 40)).alloc (.cells #[.int .i64 xn, .slice Ax xb cx, .slice Ay xi cy] 35)).alloc (.cells #[.string P, .int .i64 qn, .slice Aq qb cq, .slice Ar qi cr] 58)):=⟨_,rfl⟩
 have hb0:Below w.heap.size w W0:=by rw [hW0];exact (((Below.refl w.heap.size w).alloc (Nat.le_refl _) _).alloc (by simp) _).alloc (by simp;omega) _
 have y0:W0.cell? ⟨w.heap.size,0,none⟩=some (.slice A nl c):=by rw [hW0];simp [go_sem]
 have v0:W0.cell? ⟨w.heap.size+1,0,none⟩=some (.int .i64 xn):=by rw [hW0];simp [go_sem]
 have v1:W0.cell? ⟨w.heap.size+1,1,none⟩=some (.slice Ax xb cx):=by rw [hW0];simp [go_sem]
 have v2:W0.cell? ⟨w.heap.size+1,2,none⟩=some (.slice Ay xi cy):=by rw [hW0];simp [go_sem]
 have q0:W0.cell? ⟨w.heap.size+1+1,0,none⟩=some (.string P):=by rw [hW0];simp [go_sem]
 have q1:W0.cell? ⟨w.heap.size+1+1,1,none⟩=some (.int .i64 qn):=by rw [hW0];simp [go_sem]
 have q2:W0.cell? ⟨w.heap.size+1+1,2,none⟩=some (.slice Aq qb cq):=by rw [hW0];simp [go_sem]
 have q3:W0.cell? ⟨w.heap.size+1+1,3,none⟩=some (.slice Ar qi cr):=by rw [hW0];simp [go_sem]
 go_enter Tryz.func25,Tryz.ntmps25
 go_upto_region 1 with fail
 rw [←hW0]
 clear hW0
 cases fb
 ·go_wp2_with (go_at_call 48;refine (HF.out _ hb0).mono ?_;rintro e w1 ⟨vf,rfl,hvf,bel⟩;obtain ⟨A5,c5,A6,c6,rfl⟩:=hvf.agg;have HB:=Lib.hid (below_step bel hb0);clear bel hvf)
  go_ret
  exact ⟨rfl,HB.out.alloc HB.out.size _⟩
 ·go_upto_region 4 with (go_at_call 48;refine (HF.out _ hb0).mono ?_;rintro e w1 ⟨vf,rfl,hvf,bel⟩;obtain ⟨A5,c5,A6,c6,rfl⟩:=hvf.agg;have b1:=below_step bel hb0;replace y0:=cell_later bel y0;replace q0:=cell_later bel q0;replace q1:=cell_later bel q1;replace q2:=cell_later bel q2;replace q3:=cell_later bel q3;clear bel hvf v0 v1 v2 hb0)
  obtain ⟨W2,hW2⟩:∃W2,W2=w1.alloc (.cells #[.int .i64 FX.n, .slice A5 FX.b.length c5, .slice A6 FX.items.length c6] 35):=⟨_,rfl⟩
  have hD:Below w1.heap.size w1 W2:=by rw [hW2];exact (Below.refl _ _).alloc (Nat.le_refl _) _
  replace b1:=below_step hD b1
  replace y0:=cell_later hD y0
  replace q0:=cell_later hD q0
  replace q1:=cell_later hD q1
  replace q2:=cell_later hD q2
  replace q3:=cell_later hD q3
  rw [←hW2]
  clear hW2 hD
  cases he:(P.toList== [])
  ·have H:=Lib.hid (show pText P=P by rw [pText,he];rfl)
   go_wp2_with (go_at_call 50;refine (HM.out _ b1).mono ?_;rintro e w3 ⟨rfl,bel⟩;have HB:=Lib.hid (below_step bel b1);clear bel)
   go_ret
   exact ⟨ret_str (by rw [H.out]),HB.out⟩
  ·have H:=Lib.hid (show pText P=⟨#[46]⟩ by rw [pText,he];rfl)
   go_wp2_with (go_at_call 50;refine (HM.out _ b1).mono ?_;rintro e w3 ⟨rfl,bel⟩;have HB:=Lib.hid (below_step bel b1);clear bel)
   go_ret
   exact ⟨ret_str (by rw [H.out]),HB.out⟩
set_option maxHeartbeats 8000000 in
set_option maxRecDepth 100000 in
theorem implChangeText_any (vD:Value) (l:List RM) (x:VM) (q:CM) (lo:Nat) (B:Nat) (w:World) (h:SlD w B vD l) (hB:B≤w.heap.size) (ok:∀r∈l,r.d.ok) (sm:∀r∈l,r.d.small 1048576) (hx:x.own lo w) (hs:x.d.size≤1048576) (hq:q.part.rd w B) (hqs:q.d.size≤1048576) (ht:Tab w):
  Calls Tryz.prog 27 #[.agg #[vD],vmV x,cmV q] w fun e w'=> e= .returned (.string (chgT (l.map RM.d) x.d q.d))∧Below w.heap.size w w':=by
 have hqz:q.path.size+q.part.d.size≤1048576:=hqs
 have hF:=fun W (hb:Below w.heap.size w W)=> implFind_any vD l x lo q.path B W (h.below (hb.mono hB)) (by have:=hb.size;omega) ok sm (hx.keep fun g hg=> hb.block g (hx.lt g hg).2) (by omega) (by omega) (tab_on ht hb)
 have hM:=fun (i:Int) W (hb:Below w.heap.size w W)=> implFormatValue_any vD l i q.part B W (h.below (hb.mono hB)) (by have:=hb.size;omega) ok sm (hq.bel (hb.mono hB)) (by omega) (tab_on ht hb)
 have hokD:∀r∈l.map RM.d,r.ok:=fun r hr=> by obtain ⟨q,hq,rfl⟩:=List.mem_map.1 hr;exact ok q hq
 have hsmD:∀r∈l.map RM.d,total r.names≤1048576:=fun r hr=> by obtain ⟨q,hq,rfl⟩:=List.mem_map.1 hr;exact (sm q hq).total
 have hTZ:=fun (i:Int)=> fmtV_bd hokD hsmD i q.part.d (by omega)
 have hPZ:=pText_bd q.path
 obtain ⟨A,c,rfl, -, -, -⟩:=h.open_
 obtain ⟨Ax,cx,ex, -⟩:=hx.rd.bytes.open_
 obtain ⟨Ay,cy,ey, -⟩:=hx.rd.its.open_
 obtain ⟨Aq,cq,eq, -⟩:=hq.bytes.open_
 obtain ⟨Ar,cr,er, -⟩:=hq.its.open_
 unfold vmV at hF hM ⊢
 unfold cmV
 rw [eq,er] at hM ⊢
 rw [ex,ey] at hF ⊢
 unfold chgT
 simp only [CM.d_path,CM.d_part]
 generalize findV (l.map RM.d) x.d (spOk isStep q.path) (spL isStep q.path)=f at*
 obtain ⟨FX,fk,fb⟩:=f
 replace hM:=hM fk
 replace hTZ:=hTZ fk
 (try dsimp only at hF)
 generalize hTT:fmtV (l.map RM.d) fk q.part.d=T at*
 have HF:=Lib.hid hF
 have HM:=Lib.hid hM
 clear hF hM h hx hq ok sm ex ey eq er hs hokD hsmD hqs
 generalize q.path=P at*
 generalize q.part.n=qn at*
 generalize q.part.b.length=qb at*
 generalize q.part.items.length=qi at*
 generalize x.n=xn at*
 generalize x.b.length=xb at*
 generalize x.items.length=xi at*
 generalize l.length=nl at*
 obtain ⟨W0,hW0⟩:∃W0,W0=(((w.alloc (.cells #[.slice A nl c] 40)).alloc (.cells #[.int .i64 xn, .slice Ax xb cx, .slice Ay xi cy] 35)).alloc (.cells #[.string P, .int .i64 qn, .slice Aq qb cq, .slice Ar qi cr] 58)):=⟨_,rfl⟩
 have hb0:Below w.heap.size w W0:=by rw [hW0];exact (((Below.refl w.heap.size w).alloc (Nat.le_refl _) _).alloc (by simp) _).alloc (by simp;omega) _
 have y0:W0.cell? ⟨w.heap.size,0,none⟩=some (.slice A nl c):=by rw [hW0];simp [go_sem]
 have v0:W0.cell? ⟨w.heap.size+1,0,none⟩=some (.int .i64 xn):=by rw [hW0];simp [go_sem]
 have v1:W0.cell? ⟨w.heap.size+1,1,none⟩=some (.slice Ax xb cx):=by rw [hW0];simp [go_sem]
 have v2:W0.cell? ⟨w.heap.size+1,2,none⟩=some (.slice Ay xi cy):=by rw [hW0];simp [go_sem]
 have q0:W0.cell? ⟨w.heap.size+1+1,0,none⟩=some (.string P):=by rw [hW0];simp [go_sem]
 have q1:W0.cell? ⟨w.heap.size+1+1,1,none⟩=some (.int .i64 qn):=by rw [hW0];simp [go_sem]
 have q2:W0.cell? ⟨w.heap.size+1+1,2,none⟩=some (.slice Aq qb cq):=by rw [hW0];simp [go_sem]
 have q3:W0.cell? ⟨w.heap.size+1+1,3,none⟩=some (.slice Ar qi cr):=by rw [hW0];simp [go_sem]
 go_enter Tryz.func27,Tryz.ntmps27
 go_upto_region 1 with fail
 rw [←hW0]
 clear hW0
 cases fb
 ·go_wp2_with (go_at_call 49;refine (HF.out _ hb0).mono ?_;rintro e w1 ⟨vf,rfl,hvf,bel⟩;obtain ⟨A5,c5,A6,c6,rfl⟩:=hvf.agg;have HB:=Lib.hid (below_step bel hb0);clear bel hvf)
  go_ret
  exact ⟨rfl,HB.out.alloc HB.out.size _⟩
 ·have HP:=Lib.hid (fun W=> pathText_any P W)
  generalize hPT:pText P=PT at*
  go_upto_region 4 with (go_at_call 49;refine (HF.out _ hb0).mono ?_;rintro e w1 ⟨vf,rfl,hvf,bel⟩;obtain ⟨A5,c5,A6,c6,rfl⟩:=hvf.agg;have b1:=below_step bel hb0;replace y0:=cell_later bel y0;replace q0:=cell_later bel q0;replace q1:=cell_later bel q1;replace q2:=cell_later bel q2;replace q3:=cell_later bel q3;clear bel hvf v0 v1 v2 hb0)
  obtain ⟨W2,hW2⟩:∃W2,W2=w1.alloc (.cells #[.int .i64 FX.n, .slice A5 FX.b.length c5, .slice A6 FX.items.length c6] 35):=⟨_,rfl⟩
  have hD:Below w1.heap.size w1 W2.drew:=by rw [hW2];exact ((Below.refl _ _).alloc (Nat.le_refl _) _).drew
  replace b1:=below_step hD b1
  replace y0:=cell_later hD y0
  replace q0:=cell_later hD q0
  replace q1:=cell_later hD q1
  replace q2:=cell_later hD q2
  replace q3:=cell_later hD q3
  rw [←hW2]
  clear hW2 hD
  have hz1:¬(9223372036854775807 < PT.size+1):=by omega
  have hz2:¬(9223372036854775807 < PT.size+1+T.size):=by omega
  refine wp_region_held_drew (S:=(fun w9=> w9.cell? ⟨w.heap.size,0,none⟩=some (.slice A nl c)∧w9.cell? ⟨w.heap.size+1+1,0,none⟩=some (.string P)∧w9.cell? ⟨w.heap.size+1+1,1,none⟩=some (.int .i64 qn)∧w9.cell? ⟨w.heap.size+1+1,2,none⟩=some (.slice Aq qb cq)∧w9.cell? ⟨w.heap.size+1+1,3,none⟩=some (.slice Ar qi cr))) (by kernel_rfl) ?_ (fun hHeld=> ?_)
  ·(try dsimp only);exact ⟨y0,q0,q1,q2,q3⟩
  refine rgTake 0 (some 21) hHeld _ ?_;try go_frame
  refine rgTake 1 (some 22) hHeld _ ?_;try go_frame
  refine rgTake 4 (some 25) hHeld _ ?_;try go_frame
  refine rgTake 5 (some 26) hHeld _ ?_;try go_frame
  refine rgTake 6 (some 27) hHeld _ ?_;try go_frame
  refine rgTake 7 (some 28) hHeld _ ?_;try go_frame
  refine rgStep 2 (fun K hK=> ?_)
  go_simp
  refine (HP.out _).mono ?_;rintro e w2 ⟨rfl,rfl⟩
  (try go_wp2_with fail)
  refine hK.out _ _ ?_ (fun hHeld=> ?_)
  ·(try dsimp only);exact ⟨y0,q0,q1,q2,q3⟩
  clear hK K
  try go_frame
  refine rgTake 3 (some 24) hHeld _ ?_;try go_frame
  refine rgStep 8 (fun K hK=> ?_)
  go_simp
  refine (HM.out _ b1).mono ?_;rintro e w3 ⟨rfl,bel⟩;replace b1:=below_step bel b1;replace y0:=cell_later bel y0;replace q0:=cell_later bel q0;replace q1:=cell_later bel q1;replace q2:=cell_later bel q2;replace q3:=cell_later bel q3;clear bel
  (try go_wp2_with fail)
  refine hK.out _ _ ?_ (fun hHeld=> ?_)
  ·(try dsimp only);exact ⟨y0,q0,q1,q2,q3⟩
  clear hK K
  try go_frame
  refine rgTake 9 (some 30) hHeld _ ?_;try go_frame
  refine rgTake 10 (some 6) hHeld _ ?_;try go_frame
  refine wpAnyH_done (by kernel_rfl) ?_ _
  have HB:=Lib.hid b1
  clear b1 y0 q0 q1 q2 q3
  go_wp2
  go_ret
  exact ⟨ret_str rfl,HB.out⟩
end Go.Proofs.YtipfacnmobineaaGreatDoor
namespace Go.Proofs.YtipfacnmobineaaGreatDoor
open Go.RowKit
theorem OwC1.agg {X:ChD} {lo hi:Nat} {w:World} {v:Value} (h:OwC1 X lo hi w v):∃A c A' c',v= .agg #[.string X.path, .int .i64 X.part.n, .slice A X.part.b.length c, .slice A' X.part.items.length c']:=by
 obtain ⟨q,rfl,rfl,r⟩:=h
 obtain ⟨A,c,A',c',e⟩:=OwV.agg (X:=q.part.d) ⟨q.part,rfl,rfl,r⟩
 refine ⟨A,c,A',c',?_⟩
 have e0:=congrArg (fun v=> match v with| .agg a=> a.toList| _=> []) e
 simp only [vmV,List.cons.injEq] at e0
 unfold cmV
 rw [e0.1,e0.2.1,e0.2.2.1]
 rfl
structure K4 (W:World) (g:Nat) (a b c d:Value):Prop where
 c0:W.cell? ⟨g,0,none⟩=some a
 c1:W.cell? ⟨g,1,none⟩=some b
 c2:W.cell? ⟨g,2,none⟩=some c
 c3:W.cell? ⟨g,3,none⟩=some d
theorem K4.later {W W':World} {g:Nat} {a b c d:Value} (h:K4 W g a b c d) (hb:Below W.heap.size W W'):K4 W' g a b c d:=⟨cell_later hb h.c0,cell_later hb h.c1,cell_later hb h.c2,cell_later hb h.c3⟩
theorem K4.alloc {W:World} {g:Nat} {a b c d:Value} (h:K4 W g a b c d) (o:Obj):K4 (W.alloc o) g a b c d:=h.later ((Below.refl _ _).alloc (Nat.le_refl _) o)
theorem K4.out {W W':World} {g lo hi:Nat} {a b c d:Value} (h:K4 W g a b c d) (ho:Out lo hi W W') (hg:g < lo∨hi≤g):K4 W' g a b c d:=
 ⟨ho.cell (p:=⟨g,0,none⟩) h.c0 hg,ho.cell (p:=⟨g,1,none⟩) h.c1 hg,ho.cell (p:=⟨g,2,none⟩) h.c2 hg,ho.cell (p:=⟨g,3,none⟩) h.c3 hg⟩
theorem K4.drew {W:World} {g:Nat} {a b c d:Value} (h:K4 W g a b c d):K4 W.drew g a b c d:=⟨h.c0,h.c1,h.c2,h.c3⟩
theorem szC1_law {w0 w:World} {c:CM} {X:ChD} {v:Value} {n:Int} (h:c.part.rd w0 w0.heap.size) (ok:c.d.ok) (hX:c.d=X) (hv:v=cmV c) (b:Below w0.heap.size w0 w) (h0:0≤n) (h1:n≤1048576):
  Calls Tryz.prog 24 #[v, .int .i64 n] w (SzL (X.size≤1048576) n w):=by
 subst hX hv
 exact (szChange_any c _ n w (h.bel b) b.size ok.1 h0 h1).mono fun _ _ hq=> hq.szL h1 h0
theorem toC1_law {w0 w:World} {c:CM} {X:ChD} {v:Value} (h:c.part.rd w0 w0.heap.size) (hX:c.d=X) (hv:v=cmV c) (b:Below w0.heap.size w0 w) (hs:X.size≤1048576):
  Calls Tryz.prog 26 #[v] w (Made (OwC1 X) w):=by
 subst hX hv
 refine toChange_any c _ w (h.bel b) b.size ?_
 have:c.path.size+c.part.d.size≤1048576:=hs
 omega
theorem specText_law {w:World} {v u q:Value} {D:List RuleD} {X:Val} {C:ChD} {F:ByteArray} {lo hi lo' hi' lq hq:Nat} (h:OwD D lo hi w v) (hk:okD D) (hv:OwV X lo' hi' w u) (hp:OwC1 C lq hq w q) (hx:X.size≤1048576) (hc:C.size≤1048576) (hF:chgT D X C=F):
  Calls Tryz.prog 25 #[.agg #[v],u,q] w fun e w'=> e= .returned (.string F)∧Below w.heap.size w w':=by
 obtain ⟨l,rfl,r⟩:=h.sl
 obtain ⟨x,rfl,rfl,rx⟩:=hv.rd
 obtain ⟨y,rfl,rfl,ry⟩:=hp
 subst hF
 exact specChangeText_any v l x y _ w r (Nat.le_refl _) hk.l.1 hk.l.2 rx hx ry.own.rd hc
theorem implText_law {w0 w:World} {v u q:Value} {D:List RuleD} {X:Val} {C:ChD} {F:ByteArray} {lo hi lo' hi' lq hq:Nat} (h:OwD D lo hi w v) (hk:okD D) (hv:OwV X lo' hi' w u) (hp:OwC1 C lq hq w q) (hx:X.size≤1048576) (hc:C.size≤1048576) (hF:chgT D X C=F) (ht:Tab w0) (hb:Below w0.heap.size w0 w):
  Calls Tryz.prog 27 #[.agg #[v],u,q] w fun e w'=> e= .returned (.string F)∧Below w.heap.size w w':=by
 obtain ⟨l,rfl,r⟩:=h.sl
 obtain ⟨x,rfl,rfl,rx⟩:=hv
 obtain ⟨y,rfl,rfl,ry⟩:=hp
 subst hF
 exact implChangeText_any v l x y _ _ w r (Nat.le_refl _) hk.l.1 hk.l.2 rx.own hx ry.own.rd hc (tab_on ht hb)
end Go.Proofs.YtipfacnmobineaaGreatDoor
