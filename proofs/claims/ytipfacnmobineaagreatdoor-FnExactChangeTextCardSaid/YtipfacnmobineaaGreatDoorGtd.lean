/- The walk of impl.valueText: the text of a value that fits, behind a pointer. Conditions: the description and the value read as their data, which are small. -/
import Derived.Test.YtipfacnmobineaaGreatDoorGtc
import Derived.Test.YtipfacnmobineaaGreatDoorGta
import Derived.Test.YtipfacnmobineaaGreatDoorGb
import Derived.WalkSpells
import Derived.WalkLawsBesides
import Derived.Deep.RegionHeld3
import Derived.Deep.DeepCutAuto
import Derived.Sort.AtCall
set_option linter.unusedSimpArgs false
set_option linter.unusedVariables false
namespace Go.Proofs.YtipfacnmobineaaGreatDoor
open Go.RowKit
def TxCI (x:VM):Prop:=∀(vD:Value) (l:List RM) (k g o B:Nat) (w:World),SlD w B vD l→B≤w.heap.size→(∀r∈l,r.d.ok)→(∀r∈l,r.d.small 1048576)→validD (l.map RM.d)=true→k < l.length→validV (l.map RM.d) k x.d=true→x.rd w B→x.d.size≤4194304→Tab w→
 w.cell? ⟨g,o,none⟩=some (.int .i64 x.n)→w.cell? ⟨g,o+1,none⟩=some x.vb→w.cell? ⟨g,o+2,none⟩=some x.vi→
 Calls Tryz.prog 71 #[.agg #[vD], .int .i64 k, .pointer (some ⟨g,o,none⟩)] w fun e w'=> e= .returned (.string (textV (l.map RM.d) k x.d))∧Below w.heap.size w w'
theorem own_lit1 {W:World} {a:Value} {T:TypeId} {base g:Nat} (hg:g=W.heap.size) (hb:base≤g):(W.alloc (.cells #[a] T)).ownsRow base T 1 (.slice (some ⟨g,0,none⟩) 1 1) 1 [a]:=by
 subst hg
 exact ⟨by simp, .inr ⟨W.heap.size,1, #[a],rfl,hb,heap_alloc_new W _,Nat.le_refl _,by unfold maxLen;omega,by simp,by simp⟩⟩
theorem inT_one {r:RuleD} (h:r.kind≠6) (ts:List ByteArray):inT r ts 1=ts.getD 0 ⟨#[]⟩:=by
 rw [inT,inT]
 (try dsimp only)
 rw [if_neg h,if_neg (Nat.lt_irrefl 0)]
 apply ByteArray.ext
 simp [ByteArray.data_append]
theorem sl_s1 {W:World} {z:ByteArray} {t:TypeId} {g:Nat} (hg:g=W.heap.size):Sl (W.alloc (.cells #[.string z] t)) (W.heap.size+1) 1 (.slice (some ⟨g,0,none⟩) 1 1) 1 [.string z]:=by
 subst hg
 refine ⟨by simp,_,_,rfl,by simp,by simp [maxLen],fun _=> ⟨W.heap.size,0,rfl,by omega,fun j u hu=> ?_⟩⟩
 match j,hu with
 |0,hu=> simp only [List.getElem?_cons_zero,Option.some.injEq] at hu;subst hu;simp [go_sem]
 |j+1,hu=> simp at hu
theorem row_form {w:World} {base:Nat} {e:TypeId} {v:Value} {n:Nat} {xs:List Value} (h:w.ownsRow base e 1 v n xs) (hn:0 < n):∃g c,v= .slice (some ⟨g,0,none⟩) n c:=by
 rcases h.2 with ⟨rfl,rfl⟩|⟨g,cap,cur,rfl,hb,hg,hc,hm,hs⟩
 ·omega
 ·exact ⟨g,cap,rfl⟩
theorem one_s (s:ByteArray):∀u∈([.string s]:List Value),u.oneCell'=true:=by
 intro u hu
 simp only [List.mem_cons,List.not_mem_nil,or_false] at hu
 subst hu
 rfl
set_option maxHeartbeats 16000000 in
set_option maxRecDepth 100000 in
theorem valueText_any (x:VM):TxCI x:=by
 obtain ⟨i0,ii0,ii1,ii2,ii3⟩:=info_parts Tryz.info_str
 induction x using VM.induct with
 |h xn xb xvb xvi L ih=>
 intro vD l k g o B w h hB ok sm hv hkl hval hx hs ht hp0 hp1 hp2
 have hlm:(l.map RM.d).length=l.length:=List.length_map ..
 have hokD:∀r∈l.map RM.d,r.ok:=fun r hr=> by obtain ⟨q,hq,rfl⟩:=List.mem_map.1 hr;exact ok q hq
 have hsmD:∀r∈l.map RM.d,total r.names≤1048576:=fun r hr=> by obtain ⟨q,hq,rfl⟩:=List.mem_map.1 hr;exact (sm q hq).total
 rw [VM.d_mk] at hval hs ⊢
 have hTV:=textV_at (D:=l.map RM.d) (k:=k) (by rw [hlm];exact hkl) (Val.mk xn xb (L.map VM.d))
 rw [validV_at (by rw [hlm];exact hkl),List.getElem_map] at hval
 simp only [Val.n_mk,Val.b_mk,Val.items_mk,Bool.and_eq_true,List.length_map,List.getElem_map] at hval hTV
 obtain ⟨hown,hvs⟩:=hval
 rw [hTV]
 have hok:=validD_at hv (k:=k) (by rw [hlm];exact hkl)
 rw [List.getElem_map] at hok
 have hkR:=ruleOk_kind hok
 have hnn:=own_n (ok _ (List.getElem_mem hkl)) hown
 rw [Val.size_mk] at hs
 have hll:=Val.length_le (L.map VM.d)
 rw [List.length_map] at hll
 have hsm:∀y∈L,y.d.size≤4194304:=fun y hy=> by have:=Val.size_le_of_mem (List.mem_map_of_mem (f:=VM.d) hy);omega
 have hBD:(inT l[k].d (textsV (l.map RM.d) l[k].d xn 0 (L.map VM.d)) L.length).size≤35184372088832:=by
  have:=inT_bd hokD hsmD (sm _ (List.getElem_mem hkl)).total hvs (j:=L.length) (by rw [List.length_map];exact Nat.le_refl _)
  omega
 obtain ⟨Ax,cx,ex, -⟩:=hx.bytes.open_
 obtain ⟨Ay,cy,ey,hcy,hmy,hic⟩:=hx.its.open_
 simp only [VM.n_mk,VM.vb_mk,VM.b_mk,VM.vi_mk,VM.items_mk] at ex ey hic hcy hmy hp0 hp1 hp2
 subst ex ey
 obtain ⟨A,c,eA,hc,hm, -⟩:=h.open_
 subst eA
 unfold maxLen at hm hmy
 have hCLO:∀j (hj:j < L.length),∃T:ByteArray,(textsV (l.map RM.d) l[k].d xn 0 (L.map VM.d)).getD j ⟨#[]⟩=T∧T.size≤35184372088832∧∀(gd gr gv:Nat) (W:World),Below w.heap.size w W→W.cell? ⟨gd,0,none⟩=some (.slice A l.length c)→W.cell? ⟨gr,0,none⟩=some (.int .i64 k)→W.cell? ⟨gv,0,none⟩=some (.pointer (some ⟨g,o,none⟩))→
   Calls Tryz.prog 93 #[.int .i64 j, .pointer (some ⟨gd,0,none⟩), .pointer (some ⟨gr,0,none⟩), .pointer (some ⟨gv,0,none⟩)] W fun e w'=> e= .returned (.string T)∧Below W.heap.size W w':=fun j hj=> by
  have hvj:=validVs_at hvs (j:=j) (by rw [List.length_map];exact hj)
  rw [List.getElem_map] at hvj
  obtain ⟨q,hq,e⟩:=validV_nat hvj
  rw [e] at hvj
  have hz:=textV_size hokD hsmD L[j].d q hq hvj
  have hy:=hsm _ (List.getElem_mem hj)
  obtain ⟨bi,fi,rfl,hbi,c0,c1,c2⟩:=hic j hj
  refine ⟨textV (l.map RM.d) q L[j].d,?_,by omega,fun gd gr gv W hb d0 r0 p0=> itemClo_any k q j L.length l.length c g o gd gr gv bi fi cy A _ W d0 r0 p0 (cell_later hb hp2) hj (by omega) (fun W' hb'=> ?_) (fun W' hb'=> ?_)⟩
  ·rw [textsV_at _ _ _ _ _ _ (by rw [List.length_map];exact hj),Nat.zero_add,e,List.getElem_map]
  ·have hbb:=below_step hb' hb
   have:=childRule_any (.slice A l.length c) l k xn g o j B W' (h.below (hbb.mono hB)) (by have:=hbb.size;omega) sm hkl hkR (cell_later hbb hp0) (by omega)
   rw [e] at this
   exact this
  ·have hbb:=below_step hb' hb
   have hbm:=hbb.mono hB
   exact ih _ (List.getElem_mem hj) (.slice A l.length c) l q bi (fi+j*3) B W' (h.below hbm) (by have:=hbb.size;omega) ok sm hv (by rw [hlm] at hq;exact hq) hvj ((hx.its.2 _ (List.getElem_mem hj)).bel hbm) hy (tab_on ht hbb) ((hbm.cell (p:=⟨bi,fi+j*3,none⟩) hbi).trans c0) ((hbm.cell (p:=⟨bi,fi+j*3+1,none⟩) hbi).trans c1) ((hbm.cell (p:=⟨bi,fi+j*3+2,none⟩) hbi).trans c2)
 have hNI:=fun W (hb:Below w.heap.size w W)=> implFormatInt_any xn W hnn (tab_on ht hb)
 have hNT:=fun W (hb:Below w.heap.size w W)=> implNum_any xn ⟨#[60]⟩ (inT l[k].d (textsV (l.map RM.d) l[k].d xn 0 (L.map VM.d)) L.length) ⟨#[62]⟩ W hnn (by show 1+_+1≤_;omega) (tab_on ht hb)
 have hHX:=fun W (hb:Below w.heap.size w W)=> implHex_any (.slice Ax xb.length cx) xb B W (hx.bytes.below (hb.mono hB)) (by have:=hb.size;omega) (by omega)
 have hhz:(str (hexL xb)).size≤8388608:=by rw [str_size,hexL_length];omega
 have hkk:=kind_cases hkR
 have hN6:l[k].d.kind=6→L.length=l[k].d.names.length:=fun e=> by
  have h1:=kids_6 hkR e
  rw [own_6 e] at hown
  simp only [Bool.and_eq_true,decide_eq_true_eq] at hown
  omega
 have hN1:l[k].d.kind=7∨l[k].d.kind=9→L.length=1:=fun e=> by
  rcases e with e|e
  ·rw [own_7 e] at hown;simp only [Bool.and_eq_true,decide_eq_true_eq] at hown;exact hown.2.1
  ·rw [own_9 e] at hown;simp only [Bool.and_eq_true,decide_eq_true_eq] at hown;exact hown.2.2
 have hN8:l[k].d.kind=8→L.length≤1:=fun e=> by
  rw [own_8 e] at hown;simp only [Bool.and_eq_true,decide_eq_true_eq] at hown;exact hown.2.2
 have hnm:∀s∈l[k].d.names,s.size≤1048576:=fun s hs'=> by
  have:=size_le_total _ s hs'
  have:=(sm _ (List.getElem_mem hkl)).total
  omega
 obtain ⟨b,off,A1,c1,A2,c2,A3,c3,A4,c4,rfl,hbB,e1,e2,e3,e4,m1,m2,m3,m4,hcell⟩:=rule_cells h k hkl
 obtain ⟨An,cn,en,hcn,hmn,hnc⟩:=(h.2 _ (List.getElem_mem hkl)).n.one
 rw [e2] at en
 simp only [Value.slice.injEq,true_and] at en
 obtain ⟨rfl,rfl⟩:=en
 unfold maxLen at hmn
 have HCLO:=Lib.hid hCLO
 have HNI:=Lib.hid hNI
 have HNT:=Lib.hid hNT
 have HHX:=Lib.hid hHX
 have HC:=Lib.hid hcell
 have HNC:=Lib.hid hnc
 have HN:=Lib.hid (And.intro hN6 (And.intro hN1 (And.intro hN8 hnm)))
 have HII:=Lib.hid (And.intro ii0 (And.intro ii1 (And.intro ii2 ii3)))
 clear hCLO hNI hNT hHX hcell hnc hN6 hN1 hN8 hnm hTV hown hvs hok hkR hx h ih ok sm hsm hv e1 e2 e3 e4 m1 m2 m3 m4 hokD hsmD hnn hic ht ii0 ii1 ii2 ii3
 generalize textsV (l.map RM.d) l[k].d xn 0 (L.map VM.d)=ts at*
 generalize hfi:str (fmtI xn)=FI at*
 generalize l[k]=r at*
 generalize r.d=d at*
 clear hlm
 generalize l.length=nl at*
 obtain ⟨W0,hW0⟩:∃W0,W0=(((w.alloc (.cells #[.slice (some ⟨b,off,none⟩) nl c] 40)).alloc (.cells #[.int .i64 k] 3)).alloc (.cells #[.pointer (some ⟨g,o,none⟩)] 93)):=⟨_,rfl⟩
 have hb0:Below w.heap.size w W0:=by rw [hW0];exact (((Below.refl w.heap.size w).alloc (Nat.le_refl _) _).alloc (by simp) _).alloc (by simp;omega) _
 have hz0:W0.heap.size=w.heap.size+3:=by rw [hW0];simp
 have y0:W0.cell? ⟨w.heap.size,0,none⟩=some (.slice (some ⟨b,off,none⟩) nl c):=by rw [hW0];simp [go_sem]
 have y1:W0.cell? ⟨w.heap.size+1,0,none⟩=some (.int .i64 k):=by rw [hW0];simp [go_sem]
 have y2:W0.cell? ⟨w.heap.size+1+1,0,none⟩=some (.pointer (some ⟨g,o,none⟩)):=by rw [hW0];simp [go_sem]
 obtain ⟨x0,x1,x2,x3,x4,x5,x6,x7⟩:=HC.out W0 (below_cells hb0 hB)
 have p0:=cell_later hb0 hp0
 have p1:=cell_later hb0 hp1
 have p2:=cell_later hb0 hp2
 have hSH:=fun (hk:d.kind=1∨d.kind=2∨d.kind=3∨d.kind=4∨d.kind=5∨d.kind=6∨d.kind=7∨d.kind=8∨d.kind=9∨d.kind=10)=> shapeOf_any d.name d.kind d.size d.little A1 d.bytes.length c1 A2 d.names.length c2 A3 d.tags.length c3 A4 d.kids.length c4 W0 hk
 have HSH:=Lib.hid (hSH hkk)
 clear hSH hp0 hp1 hp2
 go_enter Tryz.func71,Tryz.ntmps71
 go_upto_region 2 with fail
 rw [←hW0]
 clear hW0
 go_upto_region 3 with (go_at_call 94;refine HSH.out.mono ?_;rintro e w1 ⟨rfl,bel⟩)
 have b1:=below_step bel hb0
 have z1:=bel.size
 have y0:=cell_later bel y0
 have y1:=cell_later bel y1
 have y2:=cell_later bel y2
 have p0:=cell_later bel p0
 have p1:=cell_later bel p1
 have p2:=cell_later bel p2
 clear x0 x1 x2 x3 x4 x5 x6 x7 HC bel hb0 HSH
 rcases hkk with hkd|hkd|hkd|hkd|hkd|hkd|hkd|hkd|hkd|hkd
 ·have HX:=Lib.hid (show wrapT d.kind xn xb L.length (inT d ts L.length)=FI by rw [hkd];exact hfi)
  have HKD:=Lib.hid hkd
  have hkq:shapeV d.kind (.slice A2 d.names.length c2)= .iface 119 (.agg #[]):=by rw [hkd];rfl
  rw [hkq]
  clear hkd hkq
  have a1:=fun (xT:TypeId) (w:World)=> ta_yes Tryz.underlying119 (.agg #[]) xT w
  clear hfi
  have hWa:Below w1.heap.size w1 (w1.alloc (.cells #[] 119)):=(Below.refl _ _).alloc (Nat.le_refl _) _
  have y2:=cell_later hWa y2
  have p0:=cell_later hWa p0
  go_wp2_with (go_at_call 95;refine (HNI.out _ (b1.alloc b1.size _)).mono ?_;rintro e w2 ⟨rfl,bel⟩;have HB:=Lib.hid (below_step bel (b1.alloc b1.size _));clear bel)
  go_ret
  exact ⟨ret_str HX.out.symm,HB.out⟩
 ·have HX:=Lib.hid (show wrapT d.kind xn xb L.length (inT d ts L.length)=⟨#[33]⟩ by rw [hkd];rfl)
  have HKD:=Lib.hid hkd
  have hkq:shapeV d.kind (.slice A2 d.names.length c2)= .iface 120 (.agg #[]):=by rw [hkd];rfl
  rw [hkq]
  clear hkd hkq
  have a1:=fun (xT:TypeId) (w:World)=> ta_no (t:=120) Tryz.underlying119 Tryz.zeroValue119 (by decide) (.agg #[]) xT w
  have a2:=fun (xT:TypeId) (w:World)=> ta_yes Tryz.underlying120 (.agg #[]) xT w
  have HB:=Lib.hid (b1.alloc b1.size (.cells #[] 120))
  go_wp2
  go_ret
  exact ⟨ret_str HX.out.symm,HB.out⟩
 ·have HX:=Lib.hid (show wrapT d.kind xn xb L.length (inT d ts L.length)=⟨#[120]⟩++str (hexL xb) by rw [hkd];rfl)
  have HKD:=Lib.hid hkd
  have hkq:shapeV d.kind (.slice A2 d.names.length c2)= .iface 139 (.agg #[]):=by rw [hkd];rfl
  rw [hkq]
  clear hkd hkq
  have a1:=fun (xT:TypeId) (w:World)=> ta_no (t:=139) Tryz.underlying119 Tryz.zeroValue119 (by decide) (.agg #[]) xT w
  have a2:=fun (xT:TypeId) (w:World)=> ta_no (t:=139) Tryz.underlying120 Tryz.zeroValue120 (by decide) (.agg #[]) xT w
  have a5:=fun (xT:TypeId) (w:World)=> ta_no (t:=139) Tryz.underlying121 Tryz.zeroValue121 (by decide) (.agg #[]) xT w
  have a6:=fun (xT:TypeId) (w:World)=> ta_no (t:=139) Tryz.underlying124 Tryz.zeroValue124 (by decide) (.agg #[]) xT w
  have a7:=fun (xT:TypeId) (w:World)=> ta_no (t:=139) Tryz.underlying125 Tryz.zeroValue125 (by decide) (.agg #[]) xT w
  have a8:=fun (xT:TypeId) (w:World)=> ta_no (t:=139) Tryz.underlying126 Tryz.zeroValue126 (by decide) (.agg #[]) xT w
  have a9:=fun (xT:TypeId) (w:World)=> ta_no (t:=139) Tryz.underlying127 Tryz.zeroValue127 (by decide) (.agg #[]) xT w
  clear hfi
  generalize str (hexL xb)=HXS at*
  go_wp2_with (go_at_call 98;refine (HHX.out _ (b1)).mono ?_;rintro e w2 ⟨rfl,bel⟩;have HB:=Lib.hid (below_step bel (b1));clear bel)
  go_ret
  exact ⟨ret_str HX.out.symm,HB.out⟩
 ·have HX:=Lib.hid (show wrapT d.kind xn xb L.length (inT d ts L.length)=⟨#[120]⟩++str (hexL xb) by rw [hkd];rfl)
  have HKD:=Lib.hid hkd
  have hkq:shapeV d.kind (.slice A2 d.names.length c2)= .iface 139 (.agg #[]):=by rw [hkd];rfl
  rw [hkq]
  clear hkd hkq
  have a1:=fun (xT:TypeId) (w:World)=> ta_no (t:=139) Tryz.underlying119 Tryz.zeroValue119 (by decide) (.agg #[]) xT w
  have a2:=fun (xT:TypeId) (w:World)=> ta_no (t:=139) Tryz.underlying120 Tryz.zeroValue120 (by decide) (.agg #[]) xT w
  have a5:=fun (xT:TypeId) (w:World)=> ta_no (t:=139) Tryz.underlying121 Tryz.zeroValue121 (by decide) (.agg #[]) xT w
  have a6:=fun (xT:TypeId) (w:World)=> ta_no (t:=139) Tryz.underlying124 Tryz.zeroValue124 (by decide) (.agg #[]) xT w
  have a7:=fun (xT:TypeId) (w:World)=> ta_no (t:=139) Tryz.underlying125 Tryz.zeroValue125 (by decide) (.agg #[]) xT w
  have a8:=fun (xT:TypeId) (w:World)=> ta_no (t:=139) Tryz.underlying126 Tryz.zeroValue126 (by decide) (.agg #[]) xT w
  have a9:=fun (xT:TypeId) (w:World)=> ta_no (t:=139) Tryz.underlying127 Tryz.zeroValue127 (by decide) (.agg #[]) xT w
  clear hfi
  generalize str (hexL xb)=HXS at*
  go_wp2_with (go_at_call 98;refine (HHX.out _ (b1)).mono ?_;rintro e w2 ⟨rfl,bel⟩;have HB:=Lib.hid (below_step bel (b1));clear bel)
  go_ret
  exact ⟨ret_str HX.out.symm,HB.out⟩
 ·have HX:=Lib.hid (show wrapT d.kind xn xb L.length (inT d ts L.length)=⟨#[91]⟩++inT d ts L.length++⟨#[93]⟩ by rw [hkd];rfl)
  have HP:=Lib.hid (fun j=> show piecesT d ts (j+1)=piecesT d ts j++ [ts.getD j ⟨#[]⟩] by rw [piecesT_succ];unfold pieceT;rw [if_neg (by omega)])
  have HKD:=Lib.hid hkd
  have hkq:shapeV d.kind (.slice A2 d.names.length c2)= .iface 121 (.agg #[]):=by rw [hkd];rfl
  rw [hkq]
  clear hkd hkq
  have a1:=fun (xT:TypeId) (w:World)=> ta_no (t:=121) Tryz.underlying119 Tryz.zeroValue119 (by decide) (.agg #[]) xT w
  have a2:=fun (xT:TypeId) (w:World)=> ta_no (t:=121) Tryz.underlying120 Tryz.zeroValue120 (by decide) (.agg #[]) xT w
  have a5:=fun (xT:TypeId) (w:World)=> ta_yes Tryz.underlying121 (.agg #[]) xT w
  have hm4:L.length≤4194304:=by omega
  obtain ⟨W1,hW1⟩:∃W1,W1=(w1.alloc (.cells #[] 121)):=⟨_,rfl⟩
  have hWa:Below w1.heap.size w1 W1:=by rw [hW1];exact (Below.refl _ _).alloc (Nat.le_refl _) _
  have bW:=Lib.hid (show Below w.heap.size w W1 by rw [hW1];exact b1.alloc b1.size _)
  replace y0:=cell_later hWa y0
  replace y1:=cell_later hWa y1
  replace y2:=cell_later hWa y2
  replace p2:=cell_later hWa p2
  obtain ⟨ii0,ii1,ii2,ii3⟩:=HII.out
  clear hfi p0 p1 b1 hWa HNI HHX HN HII HNT hkl hbB hcy hs hll hhz hmy
  go_upto_region 11 with fail
  rw [←hW1]
  clear hW1
  generalize hLm:L.length=m at*
  have hWb:Below W1.heap.size W1 (W1.alloc (.cells #[] 9)):=(Below.refl _ _).alloc (Nat.le_refl _) _
  have y2b:=cell_later hWb y2
  have p2b:=cell_later hWb p2
  go_wp2
  clear hWb y2b p2b
  go_loopw [11,12,47] (fun o _ i wr=> ∃j g cap:Nat,j≤m∧i= .int .i64 j∧o= .slice (some ⟨g,0,none⟩) j cap∧wr.ownsRow W1.heap.size 9 1 o j ((piecesT d ts j).map .string)∧Below W1.heap.size W1 wr) (fun _ _ i _=> m - (intOf i).toNat)
  case atStart=> exact ⟨0,W1.heap.size,0,Nat.zero_le _,rfl,rfl,own_empty _ _ _,(Below.refl _ _).alloc (Nat.le_refl _) _⟩
  case round=>
   obtain ⟨j,gg,cap,hj,rfl,rfl,hown,hbel⟩:=hrel
   have hsz:=hbel.size
   have HO:=Lib.hid hown
   have HB1:=Lib.hid hbel
   have hy0:=cell_later hbel y0
   have hy1:=cell_later hbel y1
   have hy2:=cell_later hbel y2
   clear hown hbel y0 y1 y2 p2
   by_cases hlt:j < m
   ·obtain ⟨T,ht,htz,hcl⟩:=HCLO.out j hlt
    have HT:=Lib.hid hcl
    have HE:=Lib.hid (show piecesT d ts (j+1)=piecesT d ts j++ [T] by rw [HP.out,ht])
    clear ht hcl HCLO HX HP
    go_wp2_with (first|(go_at_call 93;refine (HT.out _ _ _ _ (below_step HB1.out bW.out) hy0 hy1 hy2).mono ?_;rintro e w2 ⟨rfl,bel⟩;have HO2:=Lib.hid (own_below HO.out bel (Nat.le_refl _));have HB2:=Lib.hid (below_step bel HB1.out);have hz2:=bel.size;clear bel)|(at_builtin;refine wpList_app _ rfl (.tmp 50) (.tmp 54) 81 rfl W1.heap.size 9 i0 (.string ⟨#[]⟩) 1 16 Tryz.underlying81 ii0 ii1 ii2 ii3 rfl (by decide) _ j _ rfl (own_below HO2.out ((Below.refl _ _).alloc (Nat.le_refl _) _) (Nat.le_refl _)) _ 1 _ [.string T] rfl (sl_s1 rfl) (one_s _) (by omega) (by unfold maxLen;omega) (by simp;omega) ?_;intro v3 w3 own3 hg3 _))
    have hb3:=below_app hg3 (own_below HO2.out ((Below.refl _ _).alloc (Nat.le_refl _) _) (Nat.le_refl _)) (Nat.le_refl _) (by simp;omega) (HB2.out.alloc HB2.out.size _)
    obtain ⟨g3,c3',hv3⟩:=row_form own3 (Nat.succ_pos j)
    subst hv3
    rw [show (piecesT d ts j).map Value.string++ [.string T]=(piecesT d ts (j+1)).map Value.string by rw [HE.out,List.map_append];rfl] at own3
    have H:=Lib.hid (And.intro own3 hb3)
    clear own3 hb3 hg3 HO HB1 HO2 HB2 HT HE
    go_roundw
    case rel=> exact ⟨j+1,g3,c3',by omega,by go_num,rfl,H.out.1,H.out.2⟩
    case measure=> simp [intOf];omega
   ·obtain rfl:j=m:=by omega
    generalize hJ:inT d ts j=J at*
    go_wp2_with (go_at_call 96;refine (implJoin_any d ts j gg cap W1.heap.size _ HO.out hm4 (by rw [hJ];exact hBD)).mono ?_;rw [hJ];rintro e w2 ⟨rfl,bel⟩;have HB:=Lib.hid (below_step bel (below_step HB1.out bW.out));clear bel)
    go_ret
    exact ⟨ret_str (by rw [hLm,hJ];exact HX.out.symm),HB.out⟩
 ·have HX:=Lib.hid (show wrapT d.kind xn xb L.length (inT d ts L.length)=⟨#[123]⟩++inT d ts L.length++⟨#[125]⟩ by rw [hkd];rfl)
  have hnl:=HN.out.1 hkd
  have hnm:=HN.out.2.2.2
  have HP:=Lib.hid (fun j=> show piecesT d ts (j+1)=piecesT d ts j++ [d.names.getD j ⟨#[]⟩++⟨#[58]⟩++ts.getD j ⟨#[]⟩] by rw [piecesT_succ];unfold pieceT;rw [if_pos hkd])
  have HKD:=Lib.hid hkd
  have hkq:shapeV d.kind (.slice A2 d.names.length c2)= .iface 124 (.agg #[.slice A2 d.names.length c2]):=by rw [hkd];rfl
  rw [hkq]
  clear hkd hkq
  have a1:=fun (xT:TypeId) (w:World)=> ta_no (t:=124) Tryz.underlying119 Tryz.zeroValue119 (by decide) (.agg #[.slice A2 d.names.length c2]) xT w
  have a2:=fun (xT:TypeId) (w:World)=> ta_no (t:=124) Tryz.underlying120 Tryz.zeroValue120 (by decide) (.agg #[.slice A2 d.names.length c2]) xT w
  have a5:=fun (xT:TypeId) (w:World)=> ta_no (t:=124) Tryz.underlying121 Tryz.zeroValue121 (by decide) (.agg #[.slice A2 d.names.length c2]) xT w
  have a6:=fun (xT:TypeId) (w:World)=> ta_yes Tryz.underlying124 (.agg #[.slice A2 d.names.length c2]) xT w
  have hm4:L.length≤4194304:=by omega
  obtain ⟨W1,hW1⟩:∃W1,W1=(w1.alloc (.cells #[.slice A2 d.names.length c2] 124)):=⟨_,rfl⟩
  have hWa:Below w1.heap.size w1 W1:=by rw [hW1];exact (Below.refl _ _).alloc (Nat.le_refl _) _
  have bW:=Lib.hid (show Below w.heap.size w W1 by rw [hW1];exact b1.alloc b1.size _)
  replace y0:=cell_later hWa y0
  replace y1:=cell_later hWa y1
  replace y2:=cell_later hWa y2
  replace p2:=cell_later hWa p2
  have hq:W1.cell? ⟨w1.heap.size,0,none⟩=some (.slice A2 d.names.length c2):=by rw [hW1];simp [go_sem]
  obtain ⟨ii0,ii1,ii2,ii3⟩:=HII.out
  clear hfi p0 p1 b1 hWa HNI HHX HN HII HNT hkl hbB hcy hs hll hhz hmy
  go_upto_region 20 with fail
  rw [←hW1]
  clear hW1
  rw [←hnl] at hq
  have HNL:=Lib.hid hnl
  replace hcn:L.length≤c2:=by omega
  clear hnl
  generalize hLm:L.length=m at*
  have hWb:Below W1.heap.size W1 (W1.alloc (.cells #[] 9)):=(Below.refl _ _).alloc (Nat.le_refl _) _
  have y2b:=cell_later hWb y2
  have p2b:=cell_later hWb p2
  have hqb:=cell_later hWb hq
  go_wp2
  clear hWb y2b p2b hqb
  go_loopw [14,15,16,68] (fun o _ _ i wr=> ∃j g cap:Nat,j≤m∧i= .int .i64 j∧o= .slice (some ⟨g,0,none⟩) j cap∧wr.ownsRow W1.heap.size 9 1 o j ((piecesT d ts j).map .string)∧Below W1.heap.size W1 wr) (fun _ _ _ i _=> m - (intOf i).toNat)
  case atStart=> exact ⟨0,W1.heap.size,0,Nat.zero_le _,rfl,rfl,own_empty _ _ _,(Below.refl _ _).alloc (Nat.le_refl _) _⟩
  case round=>
   obtain ⟨j,gg,cap,hj,rfl,rfl,hown,hbel⟩:=hrel
   have hsz:=hbel.size
   have HO:=Lib.hid hown
   have HB1:=Lib.hid hbel
   have hy0:=cell_later hbel y0
   have hy1:=cell_later hbel y1
   have hy2:=cell_later hbel y2
   clear hown hbel y0 y1 y2 p2
   by_cases hlt:j < m
   ·obtain ⟨T,ht,htz,hcl⟩:=HCLO.out j hlt
    have hjn:j < d.names.length:=by have:=HNL.out;omega
    obtain ⟨bn,fn,rfl,hbn,hcn2⟩:=HNC.out j hjn
    have hgd:d.names.getD j ⟨#[]⟩=d.names[j]:=by simp [hjn]
    have hnz:=hnm _ (List.getElem_mem hjn)
    have hcell:=cell_later HB1.out (cell_later bW.out hcn2)
    generalize d.names[j]=nm at*
    have HT:=Lib.hid hcl
    have HE:=Lib.hid (show piecesT d ts (j+1)=piecesT d ts j++ [nm++⟨#[58]⟩++T] by rw [HP.out,ht,hgd])
    clear ht hcl HCLO HX HP HNC hgd hnm hcn2 hq
    go_wp2_with (first|(go_at_call 93;refine (HT.out _ _ _ _ (below_step HB1.out bW.out) hy0 hy1 hy2).mono ?_;rintro e w2 ⟨rfl,bel⟩;have HO2:=Lib.hid (own_below HO.out bel (Nat.le_refl _));have HB2:=Lib.hid (below_step bel HB1.out);have hz2:=bel.size;clear bel)|(at_builtin;refine wpList_app _ rfl (.tmp 73) (.tmp 80) 81 rfl W1.heap.size 9 i0 (.string ⟨#[]⟩) 1 16 Tryz.underlying81 ii0 ii1 ii2 ii3 rfl (by decide) _ j _ rfl (own_below HO2.out ((Below.refl _ _).alloc (Nat.le_refl _) _) (Nat.le_refl _)) _ 1 _ [.string (nm++⟨#[58]⟩++T)] rfl (sl_s1 rfl) (one_s _) (by omega) (by unfold maxLen;omega) (by simp;omega) ?_;intro v3 w3 own3 hg3 _))
    have hb3:=below_app hg3 (own_below HO2.out ((Below.refl _ _).alloc (Nat.le_refl _) _) (Nat.le_refl _)) (Nat.le_refl _) (by simp;omega) (HB2.out.alloc HB2.out.size _)
    obtain ⟨g3,c3',hv3⟩:=row_form own3 (Nat.succ_pos j)
    subst hv3
    rw [show (piecesT d ts j).map Value.string++ [.string (nm++⟨#[58]⟩++T)]=(piecesT d ts (j+1)).map Value.string by rw [HE.out,List.map_append];rfl] at own3
    have H:=Lib.hid (And.intro own3 hb3)
    clear own3 hb3 hg3 HO HB1 HO2 HB2 HT HE
    go_roundw
    case rel=> exact ⟨j+1,g3,c3',by omega,by go_num,rfl,H.out.1,H.out.2⟩
    case measure=> simp [intOf];omega
   ·obtain rfl:j=m:=by omega
    generalize hJ:inT d ts j=J at*
    go_wp2_with (go_at_call 96;refine (implJoin_any d ts j gg cap W1.heap.size _ HO.out hm4 (by rw [hJ];exact hBD)).mono ?_;rw [hJ];rintro e w2 ⟨rfl,bel⟩;have HB:=Lib.hid (below_step bel (below_step HB1.out bW.out));clear bel)
    go_ret
    exact ⟨ret_str (by rw [hLm,hJ];exact HX.out.symm),HB.out⟩
 ·have hl1:=HN.out.2.1 (.inl hkd)
  obtain ⟨T,ht,htz,hcl⟩:=HCLO.out 0 (by omega)
  have hIN:inT d ts L.length=T:=by rw [hl1,inT_one (by omega)];exact ht
  have HX:=Lib.hid (show wrapT d.kind xn xb L.length (inT d ts L.length)=FI++⟨#[60]⟩++T++⟨#[62]⟩ by rw [hkd,←hfi,hIN];rfl)
  rw [hIN] at HNT
  have HKD:=Lib.hid hkd
  have hkq:shapeV d.kind (.slice A2 d.names.length c2)= .iface 125 (.agg #[]):=by rw [hkd];rfl
  rw [hkq]
  clear hkd hkq
  have a1:=fun (xT:TypeId) (w:World)=> ta_no (t:=125) Tryz.underlying119 Tryz.zeroValue119 (by decide) (.agg #[]) xT w
  have a2:=fun (xT:TypeId) (w:World)=> ta_no (t:=125) Tryz.underlying120 Tryz.zeroValue120 (by decide) (.agg #[]) xT w
  have a5:=fun (xT:TypeId) (w:World)=> ta_no (t:=125) Tryz.underlying121 Tryz.zeroValue121 (by decide) (.agg #[]) xT w
  have a6:=fun (xT:TypeId) (w:World)=> ta_no (t:=125) Tryz.underlying124 Tryz.zeroValue124 (by decide) (.agg #[]) xT w
  have a7:=fun (xT:TypeId) (w:World)=> ta_yes Tryz.underlying125 (.agg #[]) xT w
  have HT:=Lib.hid hcl
  obtain ⟨W1,hW1⟩:∃W1,W1=(w1.alloc (.cells #[] 125)):=⟨_,rfl⟩
  have hWa:Below w1.heap.size w1 W1:=by rw [hW1];exact (Below.refl _ _).alloc (Nat.le_refl _) _
  have bW:Below w.heap.size w W1:=by rw [hW1];exact b1.alloc b1.size _
  replace y0:=cell_later hWa y0
  replace y1:=cell_later hWa y1
  replace y2:=cell_later hWa y2
  replace p0:=cell_later hWa p0
  clear hfi hIN ht hcl hl1 p1 p2 b1 hWa HCLO HNI HHX HNC HN HII
  go_upto_region 29 with fail
  rw [←hW1]
  clear hW1
  have hD:Below W1.heap.size W1 W1.drew:=(Below.refl _ _).drew
  replace bW:=below_step hD bW
  replace y0:=cell_later hD y0
  replace y1:=cell_later hD y1
  replace y2:=cell_later hD y2
  replace p0:=cell_later hD p0
  clear hD
  refine wp_region_held_drew (S:=(fun w9=> w9.cell? ⟨w.heap.size+1+1,0,none⟩=some (.pointer (some ⟨g,o,none⟩))∧w9.cell? ⟨g,o,none⟩=some (.int .i64 xn))) (by kernel_rfl) ?_ (fun hHeld=> ?_)
  ·(try dsimp only);exact ⟨y2,p0⟩
  refine rgTake 0 (some 90) hHeld _ ?_;try go_frame
  refine rgTake 1 (some 91) hHeld _ ?_;try go_frame
  refine rgTake 2 (some 92) hHeld _ ?_;try go_frame
  refine rgTake 3 (some 93) hHeld _ ?_;try go_frame
  refine rgTake 4 (some 94) hHeld _ ?_;try go_frame
  refine rgStep 5 (fun K hK=> ?_)
  (try go_simp)
  refine (HT.out _ _ _ _ bW y0 y1 y2).mono ?_;rintro e w2 ⟨rfl,bel⟩;replace bW:=below_step bel bW;replace y0:=cell_later bel y0;replace y1:=cell_later bel y1;replace y2:=cell_later bel y2;replace p0:=cell_later bel p0;clear bel
  refine hK.out _ _ ?_ (fun hHeld=> ?_)
  ·(try dsimp only);exact ⟨y2,p0⟩
  clear hK K
  try go_frame
  refine rgStep 6 (fun K hK=> ?_)
  go_simp
  refine (HNT.out _ bW).mono ?_;rintro e w3 ⟨rfl,bel⟩;replace bW:=below_step bel bW;replace y0:=cell_later bel y0;replace y1:=cell_later bel y1;replace y2:=cell_later bel y2;replace p0:=cell_later bel p0;clear bel
  (try go_wp2_with fail)
  refine hK.out _ _ ?_ (fun hHeld=> ?_)
  ·(try dsimp only);exact ⟨y2,p0⟩
  clear hK K
  try go_frame
  refine rgTake 7 (some 6) hHeld _ ?_;try go_frame
  refine wpAnyH_done (by kernel_rfl) ?_ _
  have HB:=Lib.hid bW
  clear bW y0 y1 y2 p0
  go_wp2
  go_ret
  exact ⟨ret_str HX.out.symm,HB.out⟩
 ·have h8:=HN.out.2.2.1 hkd
  have hWa:Below w1.heap.size w1 (w1.alloc (.cells #[] 126)):=(Below.refl _ _).alloc (Nat.le_refl _) _
  have y0:=cell_later hWa y0
  have y1:=cell_later hWa y1
  have y2:=cell_later hWa y2
  have p2:=cell_later hWa p2
  rcases (show L.length=0∨L.length=1 by omega) with hl1|hl1
  ·have HX:=Lib.hid (show wrapT d.kind xn xb L.length (inT d ts L.length)=⟨#[45]⟩ by rw [hkd,hl1];rfl)
   have HKD:=Lib.hid hkd
   have hkq:shapeV d.kind (.slice A2 d.names.length c2)= .iface 126 (.agg #[]):=by rw [hkd];rfl
   rw [hkq]
   clear hkd hkq
   have a1:=fun (xT:TypeId) (w:World)=> ta_no (t:=126) Tryz.underlying119 Tryz.zeroValue119 (by decide) (.agg #[]) xT w
   have a2:=fun (xT:TypeId) (w:World)=> ta_no (t:=126) Tryz.underlying120 Tryz.zeroValue120 (by decide) (.agg #[]) xT w
   have a5:=fun (xT:TypeId) (w:World)=> ta_no (t:=126) Tryz.underlying121 Tryz.zeroValue121 (by decide) (.agg #[]) xT w
   have a6:=fun (xT:TypeId) (w:World)=> ta_no (t:=126) Tryz.underlying124 Tryz.zeroValue124 (by decide) (.agg #[]) xT w
   have a7:=fun (xT:TypeId) (w:World)=> ta_no (t:=126) Tryz.underlying125 Tryz.zeroValue125 (by decide) (.agg #[]) xT w
   have a8:=fun (xT:TypeId) (w:World)=> ta_yes Tryz.underlying126 (.agg #[]) xT w
   rw [hl1] at p2
   have HB:=Lib.hid (b1.alloc b1.size (.cells #[] 126))
   clear hfi hl1 h8
   go_wp2
   go_ret
   exact ⟨ret_str HX.out.symm,HB.out⟩
  ·obtain ⟨T,ht,htz,hcl⟩:=HCLO.out 0 (by omega)
   have hIN:inT d ts L.length=T:=by rw [hl1,inT_one (by omega)];exact ht
   have HX:=Lib.hid (show wrapT d.kind xn xb L.length (inT d ts L.length)=⟨#[63]⟩++T by rw [hkd,hIN,hl1];rfl)
   have HKD:=Lib.hid hkd
   have hkq:shapeV d.kind (.slice A2 d.names.length c2)= .iface 126 (.agg #[]):=by rw [hkd];rfl
   rw [hkq]
   clear hkd hkq
   have a1:=fun (xT:TypeId) (w:World)=> ta_no (t:=126) Tryz.underlying119 Tryz.zeroValue119 (by decide) (.agg #[]) xT w
   have a2:=fun (xT:TypeId) (w:World)=> ta_no (t:=126) Tryz.underlying120 Tryz.zeroValue120 (by decide) (.agg #[]) xT w
   have a5:=fun (xT:TypeId) (w:World)=> ta_no (t:=126) Tryz.underlying121 Tryz.zeroValue121 (by decide) (.agg #[]) xT w
   have a6:=fun (xT:TypeId) (w:World)=> ta_no (t:=126) Tryz.underlying124 Tryz.zeroValue124 (by decide) (.agg #[]) xT w
   have a7:=fun (xT:TypeId) (w:World)=> ta_no (t:=126) Tryz.underlying125 Tryz.zeroValue125 (by decide) (.agg #[]) xT w
   have a8:=fun (xT:TypeId) (w:World)=> ta_yes Tryz.underlying126 (.agg #[]) xT w
   have HT:=Lib.hid hcl
   rw [hl1] at p2
   clear hfi hIN ht hcl hl1 h8
   go_wp2_with (go_at_call 93;refine (HT.out _ _ _ _ (b1.alloc b1.size _) y0 y1 y2).mono ?_;rintro e w2 ⟨rfl,bel⟩;have HB:=Lib.hid (below_step bel (b1.alloc b1.size _));clear bel)
   go_ret
   exact ⟨ret_str HX.out.symm,HB.out⟩
 ·have hl1:=HN.out.2.1 (.inr hkd)
  obtain ⟨T,ht,htz,hcl⟩:=HCLO.out 0 (by omega)
  have hIN:inT d ts L.length=T:=by rw [hl1,inT_one (by omega)];exact ht
  have HX:=Lib.hid (show wrapT d.kind xn xb L.length (inT d ts L.length)=⟨#[40]⟩++T++⟨#[41]⟩ by rw [hkd,hIN];rfl)
  have HKD:=Lib.hid hkd
  have hkq:shapeV d.kind (.slice A2 d.names.length c2)= .iface 127 (.agg #[]):=by rw [hkd];rfl
  rw [hkq]
  clear hkd hkq
  have a1:=fun (xT:TypeId) (w:World)=> ta_no (t:=127) Tryz.underlying119 Tryz.zeroValue119 (by decide) (.agg #[]) xT w
  have a2:=fun (xT:TypeId) (w:World)=> ta_no (t:=127) Tryz.underlying120 Tryz.zeroValue120 (by decide) (.agg #[]) xT w
  have a5:=fun (xT:TypeId) (w:World)=> ta_no (t:=127) Tryz.underlying121 Tryz.zeroValue121 (by decide) (.agg #[]) xT w
  have a6:=fun (xT:TypeId) (w:World)=> ta_no (t:=127) Tryz.underlying124 Tryz.zeroValue124 (by decide) (.agg #[]) xT w
  have a7:=fun (xT:TypeId) (w:World)=> ta_no (t:=127) Tryz.underlying125 Tryz.zeroValue125 (by decide) (.agg #[]) xT w
  have a8:=fun (xT:TypeId) (w:World)=> ta_no (t:=127) Tryz.underlying126 Tryz.zeroValue126 (by decide) (.agg #[]) xT w
  have a9:=fun (xT:TypeId) (w:World)=> ta_yes Tryz.underlying127 (.agg #[]) xT w
  have HT:=Lib.hid hcl
  clear hfi hIN ht hcl hl1
  have hWa:Below w1.heap.size w1 (w1.alloc (.cells #[] 127)):=(Below.refl _ _).alloc (Nat.le_refl _) _
  go_wp2_with (go_at_call 93;refine (HT.out _ _ _ _ (b1.alloc b1.size _) (cell_later hWa y0) (cell_later hWa y1) (cell_later hWa y2)).mono ?_;rintro e w2 ⟨rfl,bel⟩;have HB:=Lib.hid (below_step bel (b1.alloc b1.size _));clear bel)
  go_ret
  exact ⟨ret_str HX.out.symm,HB.out⟩
 ·have HX:=Lib.hid (show wrapT d.kind xn xb L.length (inT d ts L.length)=⟨#[120]⟩++str (hexL xb) by rw [hkd];rfl)
  have HKD:=Lib.hid hkd
  have hkq:shapeV d.kind (.slice A2 d.names.length c2)= .iface 139 (.agg #[]):=by rw [hkd];rfl
  rw [hkq]
  clear hkd hkq
  have a1:=fun (xT:TypeId) (w:World)=> ta_no (t:=139) Tryz.underlying119 Tryz.zeroValue119 (by decide) (.agg #[]) xT w
  have a2:=fun (xT:TypeId) (w:World)=> ta_no (t:=139) Tryz.underlying120 Tryz.zeroValue120 (by decide) (.agg #[]) xT w
  have a5:=fun (xT:TypeId) (w:World)=> ta_no (t:=139) Tryz.underlying121 Tryz.zeroValue121 (by decide) (.agg #[]) xT w
  have a6:=fun (xT:TypeId) (w:World)=> ta_no (t:=139) Tryz.underlying124 Tryz.zeroValue124 (by decide) (.agg #[]) xT w
  have a7:=fun (xT:TypeId) (w:World)=> ta_no (t:=139) Tryz.underlying125 Tryz.zeroValue125 (by decide) (.agg #[]) xT w
  have a8:=fun (xT:TypeId) (w:World)=> ta_no (t:=139) Tryz.underlying126 Tryz.zeroValue126 (by decide) (.agg #[]) xT w
  have a9:=fun (xT:TypeId) (w:World)=> ta_no (t:=139) Tryz.underlying127 Tryz.zeroValue127 (by decide) (.agg #[]) xT w
  clear hfi
  generalize str (hexL xb)=HXS at*
  go_wp2_with (go_at_call 98;refine (HHX.out _ (b1)).mono ?_;rintro e w2 ⟨rfl,bel⟩;have HB:=Lib.hid (below_step bel (b1));clear bel)
  go_ret
  exact ⟨ret_str HX.out.symm,HB.out⟩
end Go.Proofs.YtipfacnmobineaaGreatDoor
