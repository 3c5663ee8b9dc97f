/- Out of TxS, TxV: the walks and plain laws that the claim needs. No condition but those that each theorem names. -/
import Derived.Test.YtipfacnmobineaaGreatDoorGta
import Derived.Test.YtipfacnmobineaaGreatDoorGa
import Derived.WalkSpells
import Derived.WalkLawsBesides
import Derived.Deep.DeepCutAuto
import Derived.Test.YtipfacnmobineaaGreatDoorGca
import Derived.Test.YtipfacnmobineaaGreatDoorGu
import Derived.Test.YtipfacnmobineaaGreatDoorGm
set_option linter.unusedSimpArgs false
set_option linter.unusedVariables false
namespace Go.Proofs.YtipfacnmobineaaGreatDoor
open Go.RowKit
set_option maxHeartbeats 1000000 in
theorem specNum_any (n:Int) (a s b:ByteArray) (w:World) (hn:InI64 n) (h:a.size+s.size+b.size≤4611686018427387904):
  Calls Tryz.prog 91 #[.int .i64 n, .string a, .string s, .string b] w fun e w'=> e= .returned (.string (str (fmtI n)++a++s++b))∧Below w.heap.size w w':=by
 have hz:=fmtI_size n hn
 have HC:=Lib.hid (specFormatInt_any n w hn)
 generalize str (fmtI n)=S at*
 clear hn
 go_enter Tryz.func91,Tryz.ntmps91
 go_wp2_with fail
 refine HC.out.mono ?_
 rintro e w1 ⟨rfl,bel⟩
 go_wp2
 go_ret
 exact ⟨rfl,bel⟩
set_option maxHeartbeats 8000000 in
set_option maxRecDepth 100000 in
theorem l10Text_any (x:VM):TxC x:=by
 induction x using VM.induct with
 |h xn xb xvb xvi L ih=>
 intro vD l k B w h hB ok sm hv hkl hval hx hs
 have hlm:(l.map RM.d).length=l.length:=List.length_map ..
 have hL:=fun W (hb:Below w.heap.size w W)=> l10List_of xn xb xvb xvi L ih vD l k B W (h.below (hb.mono hB)) (by have:=hb.size;omega) ok sm hv hkl hval (hx.bel (hb.mono hB)) hs
 have hokD:∀r∈l.map RM.d,r.ok:=fun r hr=> by obtain ⟨q,hq,rfl⟩:=List.mem_map.1 hr;exact ok q hq
 have hsmD:∀r∈l.map RM.d,total r.names≤1048576:=fun r hr=> by obtain ⟨q,hq,rfl⟩:=List.mem_map.1 hr;exact (sm q hq).total
 rw [VM.d_mk] at hval hs ⊢
 have hTV:=textV_at (D:=l.map RM.d) (k:=k) (by rw [hlm];exact hkl) (Val.mk xn xb (L.map VM.d))
 rw [validV_at (by rw [hlm];exact hkl),List.getElem_map] at hval
 simp only [Val.n_mk,Val.b_mk,Val.items_mk,Bool.and_eq_true,List.length_map,List.getElem_map] at hval hTV
 obtain ⟨hown,hvs⟩:=hval
 rw [hTV]
 have hok:=validD_at hv (k:=k) (by rw [hlm];exact hkl)
 rw [List.getElem_map] at hok
 have hkR:=ruleOk_kind hok
 have hnn:=own_n (ok _ (List.getElem_mem hkl)) hown
 rw [Val.size_mk] at hs
 have hll:=Val.length_le (L.map VM.d)
 rw [List.length_map] at hll
 have hBD:(inT l[k].d (textsV (l.map RM.d) l[k].d xn 0 (L.map VM.d)) L.length).size≤35184372088832:=by
  have:=inT_bd hokD hsmD (sm _ (List.getElem_mem hkl)).total hvs (j:=L.length) (by rw [List.length_map];exact Nat.le_refl _)
  omega
 have hNI:=fun W=> specFormatInt_any xn W hnn
 have hNT:=fun W=> specNum_any xn ⟨#[60]⟩ (inT l[k].d (textsV (l.map RM.d) l[k].d xn 0 (L.map VM.d)) L.length) ⟨#[62]⟩ W hnn (by show 1+_+1≤_;omega)
 have hHX:=fun W (hb:Below w.heap.size w W)=> specHex_any xvb xb B W (hx.bytes.below (hb.mono hB)) (by have:=hb.size;omega) (by omega)
 have hhz:(str (hexL xb)).size≤8388608:=by rw [str_size,hexL_length];omega
 have hkk:=kind_cases hkR
 obtain ⟨A,c,rfl,hc,hm, -⟩:=h.open_
 unfold maxLen at hm
 obtain ⟨b,off,A1,c1,A2,c2,A3,c3,A4,c4,rfl,hbB,e1,e2,e3,e4,m1,m2,m3,m4,hcell⟩:=rule_cells h k hkl
 obtain ⟨Ax,cx,ex, -⟩:=hx.bytes.open_
 obtain ⟨Ay,cy,ey,hcy,hmy, -⟩:=hx.its.open_
 simp only [VM.vb_mk,VM.b_mk,VM.vi_mk,VM.items_mk] at ex ey hcy
 subst ex ey
 unfold rmV vmV at hL
 simp only [VM.n_mk,VM.vb_mk,VM.vi_mk] at hL
 rw [e1,e2,e3,e4] at hL
 have HL:=Lib.hid hL
 have HNI:=Lib.hid hNI
 have HNT:=Lib.hid hNT
 have HHX:=Lib.hid hHX
 have HC:=Lib.hid hcell
 clear hL hNI hNT hHX hcell hTV hown hvs hok hkR hx h ih ok sm hv e1 e2 e3 e4 m1 m2 m3 m4 hokD hsmD hnn
 generalize inT l[k].d (textsV (l.map RM.d) l[k].d xn 0 (L.map VM.d)) L.length=S at*
 have HX10:∀k:Int,k≠1→k≠2→k≠5→k≠6→k≠7→k≠8→k≠9→wrapT k xn xb L.length S=⟨#[120]⟩++str (hexL xb):=fun k h1 h2 h5 h6 h7 h8 h9=> by unfold wrapT;rw [if_neg h1,if_neg h2,if_neg h5,if_neg h6,if_neg h7,if_neg h8,if_neg h9]
 generalize str (hexL xb)=HXS at*
 generalize hfi:str (fmtI xn)=FI at*
 generalize l[k]=r at*
 generalize r.d=d at*
 generalize d.kind=kd at*
 clear hlm
 have HWT:∀t,t=wrapT kd xn xb L.length S→Hid (t=wrapT kd xn xb L.length S):=fun t h=> Lib.hid h
 generalize l.length=nl at*
 show Calls Tryz.prog 70 #[.agg #[.slice (some ⟨b,off,none⟩) nl c], .int .i64 k, .agg #[.int .i64 xn, .slice Ax xb.length cx, .slice Ay L.length cy]] w _
 obtain ⟨W0,hW0⟩:∃W0,W0=((w.alloc (.cells #[.slice (some ⟨b,off,none⟩) nl c] 40)).alloc (.cells #[.int .i64 xn, .slice Ax xb.length cx, .slice Ay L.length cy] 35)):=⟨_,rfl⟩
 have hb0:Below w.heap.size w W0:=by rw [hW0];exact ((Below.refl w.heap.size w).alloc (Nat.le_refl _) _).alloc (by simp) _
 obtain ⟨W1,hW1⟩:∃W1,W1=W0.alloc (.cells #[.string d.name, .int .i64 kd, .int .i64 d.size, .bool d.little, .slice A1 d.bytes.length c1, .slice A2 d.names.length c2, .slice A3 d.tags.length c3, .slice A4 d.kids.length c4] 90):=⟨_,rfl⟩
 have hb1:Below w.heap.size w W1:=by rw [hW1];exact hb0.alloc hb0.size _
 have hz:W1.heap.size=w.heap.size+3:=by rw [hW1,hW0];simp
 have v0:W1.cell? ⟨w.heap.size+1,0,none⟩=some (.int .i64 xn):=by rw [hW1,hW0];simp [go_sem]
 have v1:W1.cell? ⟨w.heap.size+1,1,none⟩=some (.slice Ax xb.length cx):=by rw [hW1,hW0];simp [go_sem]
 have v2:W1.cell? ⟨w.heap.size+1,2,none⟩=some (.slice Ay L.length cy):=by rw [hW1,hW0];simp [go_sem]
 have u1:W1.cell? ⟨w.heap.size+1+1,1,none⟩=some (.int .i64 kd):=by rw [hW1,hW0];simp [go_sem]
 have y0:W1.cell? ⟨w.heap.size,0,none⟩=some (.slice (some ⟨b,off,none⟩) nl c):=by rw [hW1,hW0];simp [go_sem]
 have u0:W1.cell? ⟨w.heap.size+1+1,0,none⟩=some (.string d.name):=by rw [hW1,hW0];simp [go_sem]
 have u2:W1.cell? ⟨w.heap.size+1+1,2,none⟩=some (.int .i64 d.size):=by rw [hW1,hW0];simp [go_sem]
 have u3:W1.cell? ⟨w.heap.size+1+1,3,none⟩=some (.bool d.little):=by rw [hW1,hW0];simp [go_sem]
 have u4:W1.cell? ⟨w.heap.size+1+1,4,none⟩=some (.slice A1 d.bytes.length c1):=by rw [hW1,hW0];simp [go_sem]
 have u5:W1.cell? ⟨w.heap.size+1+1,5,none⟩=some (.slice A2 d.names.length c2):=by rw [hW1,hW0];simp [go_sem]
 have u6:W1.cell? ⟨w.heap.size+1+1,6,none⟩=some (.slice A3 d.tags.length c3):=by rw [hW1,hW0];simp [go_sem]
 have u7:W1.cell? ⟨w.heap.size+1+1,7,none⟩=some (.slice A4 d.kids.length c4):=by rw [hW1,hW0];simp [go_sem]
 obtain ⟨x0,x1,x2,x3,x4,x5,x6,x7⟩:=HC.out W0 (below_cells hb0 hB)
 have y9:W0.cell? ⟨w.heap.size,0,none⟩=some (.slice (some ⟨b,off,none⟩) nl c):=by rw [hW0];simp [go_sem]
 have hz9:W0.heap.size=w.heap.size+1+1:=by rw [hW0];simp
 go_enter Tryz.func70,Tryz.ntmps70
 go_upto_region 1 with fail
 rw [←hW0]
 clear hW0 hz
 go_upto_region 2 with fail
 rw [←hW1]
 clear y9 hz9 x0 x1 x2 x3 x4 x5 x6 x7 hW1 HC hb0
 go_upto_region 3 with (go_at_call 89;refine (HL.out _ hb1).mono ?_;rintro e w1 ⟨rfl,bel⟩)
 have b1:=below_step bel hb1
 have v0:=cell_later bel v0
 have v1:=cell_later bel v1
 have v2:=cell_later bel v2
 have u1:=cell_later bel u1
 have HB:=Lib.hid b1
 clear bel y0 u0 u2 u3 u4 u5 u6 u7 HL hb1
 rcases hkk with rfl|rfl|rfl|rfl|rfl|rfl|rfl|rfl|rfl|rfl
 ·have HX:=Lib.hid (show wrapT 1 xn xb L.length S=FI by simp [wrapT,hfi])
  clear hfi HWT HNT HHX HX10
  go_wp2_with fail
  refine (HNI.out _).mono ?_
  rintro e w2 ⟨rfl,bel⟩
  have HB:=Lib.hid (below_step bel b1)
  clear bel
  go_wp2
  go_ret
  exact ⟨ret_str HX.out.symm,HB.out⟩
 ·have HX:=Lib.hid (show wrapT 2 xn xb L.length S=⟨#[33]⟩ by simp [wrapT])
  clear hfi HWT HNT HNI HHX HX10
  go_wp2
  go_ret
  exact ⟨ret_str HX.out.symm,HB.out⟩
 ·have HX:=Lib.hid (HX10 3 (by decide) (by decide) (by decide) (by decide) (by decide) (by decide) (by decide))
  clear hfi HWT HNT HNI HX10
  go_wp2_with fail
  refine (HHX.out _ b1).mono ?_
  rintro e w2 ⟨rfl,bel⟩
  have HB:=Lib.hid (below_step bel b1)
  clear bel
  go_wp2
  go_ret
  exact ⟨ret_str HX.out.symm,HB.out⟩
 ·have HX:=Lib.hid (HX10 4 (by decide) (by decide) (by decide) (by decide) (by decide) (by decide) (by decide))
  clear hfi HWT HNT HNI HX10
  go_wp2_with fail
  refine (HHX.out _ b1).mono ?_
  rintro e w2 ⟨rfl,bel⟩
  have HB:=Lib.hid (below_step bel b1)
  clear bel
  go_wp2
  go_ret
  exact ⟨ret_str HX.out.symm,HB.out⟩
 ·have HX:=Lib.hid (show wrapT 5 xn xb L.length S=⟨#[91]⟩++S++⟨#[93]⟩ by simp [wrapT])
  clear hfi HWT HNT HNI HHX HX10
  go_wp2
  go_ret
  exact ⟨ret_str HX.out.symm,HB.out⟩
 ·have HX:=Lib.hid (show wrapT 6 xn xb L.length S=⟨#[123]⟩++S++⟨#[125]⟩ by simp [wrapT])
  clear hfi HWT HNT HNI HHX HX10
  go_wp2
  go_ret
  exact ⟨ret_str HX.out.symm,HB.out⟩
 ·have HX:=Lib.hid (show wrapT 7 xn xb L.length S=FI++⟨#[60]⟩++S++⟨#[62]⟩ by simp [wrapT,hfi])
  clear hfi HWT HNI HHX HX10
  go_wp2_with fail
  refine (HNT.out _).mono ?_
  rintro e w2 ⟨rfl,bel⟩
  have HB:=Lib.hid (below_step bel b1)
  clear bel
  go_wp2
  go_ret
  exact ⟨ret_str HX.out.symm,HB.out⟩
 ·clear hfi HWT HNT HNI HHX HX10
  by_cases hl0:L.length=0
  ·have HX:=Lib.hid (show wrapT 8 xn xb L.length S=⟨#[45]⟩ by simp [wrapT,hl0])
   go_wp2
   go_ret
   exact ⟨ret_str HX.out.symm,HB.out⟩
  ·have HX:=Lib.hid (show wrapT 8 xn xb L.length S=⟨#[63]⟩++S by simp [wrapT,hl0])
   have hl1:((L.length:Int)==0)=false:=beq_eq_false_iff_ne.2 (by omega)
   go_wp2
   go_ret
   exact ⟨ret_str HX.out.symm,HB.out⟩
 ·have HX:=Lib.hid (show wrapT 9 xn xb L.length S=⟨#[40]⟩++S++⟨#[41]⟩ by simp [wrapT])
  clear hfi HWT HNT HNI HHX HX10
  go_wp2
  go_ret
  exact ⟨ret_str HX.out.symm,HB.out⟩
 ·have HX:=Lib.hid (HX10 10 (by decide) (by decide) (by decide) (by decide) (by decide) (by decide) (by decide))
  clear hfi HWT HNT HNI HX10
  go_wp2_with fail
  refine (HHX.out _ b1).mono ?_
  rintro e w2 ⟨rfl,bel⟩
  have HB:=Lib.hid (below_step bel b1)
  clear bel
  go_wp2
  go_ret
  exact ⟨ret_str HX.out.symm,HB.out⟩
end Go.Proofs.YtipfacnmobineaaGreatDoor
namespace Go.Proofs.YtipfacnmobineaaGreatDoor
open Go.RowKit
set_option maxHeartbeats 4000000 in
set_option maxRecDepth 100000 in
theorem specFormatValue_any (vD:Value) (l:List RM) (i:Int) (x:VM) (B:Nat) (w:World) (h:SlD w B vD l) (hB:B≤w.heap.size) (ok:∀r∈l,r.d.ok) (sm:∀r∈l,r.d.small 1048576) (hx:x.rd w B) (hs:x.d.size≤4194304):
  Calls Tryz.prog 50 #[.agg #[vD], .int .i64 i,vmV x] w fun e w'=> e= .returned (.string (fmtV (l.map RM.d) i x.d))∧Below w.heap.size w w':=by
 have hV:=fun W (hb:Below w.heap.size w W)=> specValidValue_any vD l i x B W (h.below (hb.mono hB)) (by have:=hb.size;omega) ok sm (hx.bel (hb.mono hB)) hs
 have hT:(knownD (l.map RM.d) i && validV (l.map RM.d) i x.d)=true→∀W,Below w.heap.size w W→Calls Tryz.prog 70 #[.agg #[vD], .int .i64 i,vmV x] W fun e w'=> e= .returned (.string (textV (l.map RM.d) i x.d))∧Below W.heap.size W w':=fun hk W hb=> by
  simp only [Bool.and_eq_true] at hk
  obtain ⟨q,hq,rfl⟩:=validV_nat hk.2
  rw [List.length_map] at hq
  exact l10Text_any x vD l q B W (h.below (hb.mono hB)) (by have:=hb.size;omega) ok sm (knownD_valid hk.1) hq hk.2 (hx.bel (hb.mono hB)) hs
 obtain ⟨A,c,rfl, -, -, -⟩:=h.open_
 obtain ⟨Ax,cx,ex, -⟩:=hx.bytes.open_
 obtain ⟨Ay,cy,ey, -⟩:=hx.its.open_
 unfold vmV at hV hT ⊢
 rw [ex,ey] at hV hT ⊢
 unfold fmtV
 obtain ⟨W0,hW0⟩:∃W0,W0=((w.alloc (.cells #[.slice A l.length c] 40)).alloc (.cells #[.int .i64 x.n, .slice Ax x.b.length cx, .slice Ay x.items.length cy] 35)):=⟨_,rfl⟩
 have hb0:Below w.heap.size w W0:=by rw [hW0];exact ((Below.refl w.heap.size w).alloc (Nat.le_refl _) _).alloc (by simp) _
 have y0:W0.cell? ⟨w.heap.size,0,none⟩=some (.slice A l.length c):=by rw [hW0];simp [go_sem]
 have v0:W0.cell? ⟨w.heap.size+1,0,none⟩=some (.int .i64 x.n):=by rw [hW0];simp [go_sem]
 have v1:W0.cell? ⟨w.heap.size+1,1,none⟩=some (.slice Ax x.b.length cx):=by rw [hW0];simp [go_sem]
 have v2:W0.cell? ⟨w.heap.size+1,2,none⟩=some (.slice Ay x.items.length cy):=by rw [hW0];simp [go_sem]
 cases hk:(knownD (l.map RM.d) i && validV (l.map RM.d) i x.d)
 ·rw [hk] at hV
  have HV:=Lib.hid hV
  clear hV hT hk h hx ok sm ex ey hs
  generalize l.length=nl at*
  go_enter Tryz.func50,Tryz.ntmps50
  go_upto_region 1 with fail
  rw [←hW0]
  clear hW0
  go_wp2_with (go_at_call 54;refine (HV.out _ hb0).mono ?_;rintro e w1 ⟨rfl,bel⟩)
  have b1:=below_step bel hb0
  go_ret
  exact ⟨rfl,b1⟩
 ·have hT:=hT hk
  rw [hk] at hV
  have HV:=Lib.hid hV
  have HT:=Lib.hid hT
  clear hV hT hk h hx ok sm ex ey hs
  generalize textV (l.map RM.d) i x.d=T at*
  generalize l.length=nl at*
  go_enter Tryz.func50,Tryz.ntmps50
  go_upto_region 1 with fail
  rw [←hW0]
  clear hW0
  go_upto_region 3 with (go_at_call 54;refine (HV.out _ hb0).mono ?_;rintro e w1 ⟨rfl,bel⟩)
  have b1:=below_step bel hb0
  have y0:=cell_later bel y0
  have v0:=cell_later bel v0
  have v1:=cell_later bel v1
  have v2:=cell_later bel v2
  clear bel hb0
  go_wp2_with (go_at_call 70;refine (HT.out _ b1).mono ?_;rintro e w2 ⟨rfl,bel⟩)
  have b2:=below_step bel b1
  go_ret
  exact ⟨rfl,b2⟩
end Go.Proofs.YtipfacnmobineaaGreatDoor
