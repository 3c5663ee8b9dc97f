/- Out of Entry, SelP, IxL, OpenEntry, Search, Search2, FmtE: the walks and plain laws that the claim needs. No condition but those that each theorem names. -/
import Derived.Test.YteldgdelmaeokaaDoorRows
import Derived.Test.YteldgdelmaeokaaDoorGa
import Derived.WalkSpells
import Derived.WalkLawsBesides
import Derived.Test.YteldgdelmaeokaaDoorGf
import Derived.Test.YteldgdelmaeokaaDoorGb
import Derived.BigQuiet
import Derived.Deep.QuietTactic
import Derived.Deep.RegionHeld3
import Derived.Lib.SmallJoins
import Derived.BigGuardPart
import Derived.Sort.AtCall
set_option linter.unusedSimpArgs false
set_option linter.unusedVariables false
namespace Go.Proofs.YteldgdelmaeokaaDoor
open Go.RowKit
structure Ent where
 path:ByteArray
 rule:Int
 start:Int
 stop:Int
def entCells (e:Ent):List Value:= [.string e.path, .int .i64 e.rule, .int .i64 e.start, .int .i64 e.stop]
def entV (e:Ent):Value:= .agg #[.string e.path, .int .i64 e.rule, .int .i64 e.start, .int .i64 e.stop]
def entsCells (l:List Ent):List Value:=l.flatMap entCells
theorem entsCells_at (l:List Ent) (k j:Nat) (hk:k < l.length) (hj:j < 4):(entsCells l)[k*4+j]?=(entCells l[k])[j]?:=by
 induction l generalizing k with
 |nil=> simp at hk
 |cons e l ih=>
  cases k with
  |zero=> simp only [entsCells,List.flatMap_cons,Nat.zero_mul,Nat.zero_add];rw [List.getElem?_append_left (by simp [entCells];omega)];rfl
  |succ k=>
   simp only [entsCells,List.flatMap_cons]
   rw [List.getElem?_append_right (by simp [entCells];omega)]
   have e1:(k+1)*4+j - (entCells e).length=k*4+j:=by simp [entCells];omega
   rw [e1]
   exact ih k (by simpa using hk)
def SlE (w:World) (B:Nat) (v:Value) (l:List Ent):Prop:=Sl w B 4 v l.length (entsCells l)
theorem SlE.below {w w':World} {B:Nat} {v:Value} {l:List Ent} (h:SlE w B v l) (hb:Below B w w'):SlE w' B v l:=Sl.below h hb
theorem SlE.more {w:World} {B B':Nat} {v:Value} {l:List Ent} (h:SlE w B v l) (hB:B≤B'):SlE w B' v l:=Sl.more h hB
theorem SlE.open_ {w:World} {B:Nat} {v:Value} {l:List Ent} (h:SlE w B v l):∃A c,v= .slice A l.length c∧l.length≤c∧c≤maxLen∧
  (∀k (hk:k < l.length),∃b off,A=some ⟨b,off,none⟩∧b < B∧w.cell? ⟨b,off+k*4,none⟩=some (.string l[k].path)∧w.cell? ⟨b,off+k*4+1,none⟩=some (.int .i64 l[k].rule)∧
    w.cell? ⟨b,off+k*4+2,none⟩=some (.int .i64 l[k].start)∧w.cell? ⟨b,off+k*4+3,none⟩=some (.int .i64 l[k].stop)):=by
 obtain ⟨_,A,c,rfl,hc,hm,hr⟩:=h
 refine ⟨A,c,rfl,hc,hm,fun k hk=> ?_⟩
 obtain ⟨b,off,e,hb,hcell⟩:=hr (by omega)
 refine ⟨b,off,e,hb,?_,?_,?_,?_⟩
 ·exact hcell (k*4+0) _ (by rw [entsCells_at l k 0 hk (by omega)];rfl)
 ·exact hcell (k*4+1) _ (by rw [entsCells_at l k 1 hk (by omega)];rfl)
 ·exact hcell (k*4+2) _ (by rw [entsCells_at l k 2 hk (by omega)];rfl)
 ·exact hcell (k*4+3) _ (by rw [entsCells_at l k 3 hk (by omega)];rfl)
theorem Tryd.info_entry:(Tryd.prog.info? 49).map (fun i=> (i.zero,i.size,i.bytes))=some (some (.agg #[.string ⟨#[]⟩, .int .i64 0, .int .i64 0, .int .i64 0]),4,40):=by kernel_rfl
end Go.Proofs.YteldgdelmaeokaaDoor
namespace Go.Proofs.YteldgdelmaeokaaDoor
theorem filter_yes {α:Type} {p:α→Bool} {l:List α} {k:Nat} (h:k < l.length) (hp:p l[k]=true):(l.take (k+1)).filter p=(l.take k).filter p++ [l[k]]:=by
 rw [List.take_succ_eq_append_getElem h,List.filter_append];simp [hp]
theorem filter_no {α:Type} {p:α→Bool} {l:List α} {k:Nat} (h:k < l.length) (hp:p l[k]=false):(l.take (k+1)).filter p=(l.take k).filter p:=by
 rw [List.take_succ_eq_append_getElem h,List.filter_append];simp [hp]
end Go.Proofs.YteldgdelmaeokaaDoor
namespace Go.Proofs.YteldgdelmaeokaaDoor
open Go.RowKit
theorem entsCells_snoc (a:List Ent) (e:Ent):entsCells (a++ [e])=entsCells a++entCells e:=by simp [entsCells]
theorem entCells_one (e:Ent):∀u∈entCells e,u.oneCell'=true:=by
 intro u hu;simp only [entCells,List.mem_cons,List.mem_nil_iff,or_false] at hu
 rcases hu with rfl|rfl|rfl|rfl <;> rfl
theorem sl_ent_one {W:World} {e:Ent} {t:TypeId} {g:Nat} (hg:g=W.heap.size):Sl (W.alloc (.cells #[.string e.path, .int .i64 e.rule, .int .i64 e.start, .int .i64 e.stop] t)) (W.heap.size+1) 4 (.slice (some ⟨g,0,none⟩) 1 1) 1 (entCells e):=by
 subst hg
 refine ⟨by simp [entCells],_,_,rfl,by simp,by simp [maxLen],fun _=> ⟨W.heap.size,0,rfl,by omega,fun j u hu=> ?_⟩⟩
 match j,hu with
 |0,hu=> simp only [entCells,List.getElem?_cons_zero,Option.some.injEq] at hu;subst hu;simp [go_sem]
 |1,hu=> simp only [entCells,List.getElem?_cons_succ,List.getElem?_cons_zero,Option.some.injEq] at hu;subst hu;simp [go_sem]
 |2,hu=> simp only [entCells,List.getElem?_cons_succ,List.getElem?_cons_zero,Option.some.injEq] at hu;subst hu;simp [go_sem]
 |3,hu=> simp only [entCells,List.getElem?_cons_succ,List.getElem?_cons_zero,Option.some.injEq] at hu;subst hu;simp [go_sem]
 |j+4,hu=> simp [entCells] at hu
def leafK (k:Int):Bool:=k==1||k==2||k==3||k==4||k==10
def leafB (D:List RuleD) (e:Ent):Bool:=inB e.rule 0 ((D.length:Int) - 1) && (match ruleAt D e.rule with|none=> false|some r=> leafK r.kind)
theorem leafB_no {D:List RuleD} {e:Ent} (h:inB e.rule 0 ((D.length:Int) - 1)=false):leafB D e=false:=by unfold leafB;rw [h];rfl
theorem leafB_at {D:List RuleD} {e:Ent} (h:inB e.rule 0 ((D.length:Int) - 1)=true):∃(k:Nat) (hk:k < D.length),e.rule=k∧leafB D e=leafK (D[k]).kind:=by
 have:=inB_iff.1 h
 obtain ⟨k,hk,e1,e2⟩:=ruleAt_some (D:=D) (i:=e.rule) (by omega) (by omega)
 exact ⟨k,hk,e1,by unfold leafB;rw [h,e2];rfl⟩
set_option maxHeartbeats 1000000 in
set_option maxRecDepth 100000 in
theorem select_leaf (c0:Value) (p:Ent→Bool) (v:Value) (l:List Ent) (B:Nat) (w:World) (h:SlE w B v l) (hB:B≤w.heap.size) (hl:l.length≤1000000000000)
  (hF:∀e,e∈l→∀W,Below w.heap.size w W→Calls Tryd.prog 60 #[entV e,c0] W fun x w'=> x= .returned (.bool (p e))∧Below W.heap.size W w'):
  Calls Tryd.prog 59 #[v, .func (.func 60) #[] #[c0]] w (Fresh w 49 4 (l.filter p).length (entsCells (l.filter p))):=by
 obtain ⟨i0,hi,hz0,hz1,hz2⟩:=info_parts Tryd.info_entry
 obtain ⟨A,c,rfl,hc,hm,hcell⟩:=h.open_
 unfold maxLen at hm
 have HF:=Lib.hid hF
 clear hF h
 go_enter Tryd.func59,Tryd.ntmps59
 go_wp2
 go_loopw [5,7,11] (fun o _ i wr=> ∃k n:Nat,k≤l.length∧i= .int .i64 k∧n≤k∧n=((l.take k).filter p).length∧wr.ownsRow w.heap.size 49 4 o n (entsCells ((l.take k).filter p))∧Below w.heap.size w wr) (fun _ _ i _=> l.length - (intOf i).toNat)
 case atStart=> exact ⟨0,0,Nat.zero_le _,rfl,Nat.le_refl _,rfl,own_empty _ _ _,(Below.refl _ _).alloc (Nat.le_refl _) _⟩
 case round=>
  obtain ⟨k,n,hk,rfl,hn,hne,hown,hb⟩:=hrel
  have HN:=Lib.hid hne
  clear hne
  by_cases hlt:k < l.length
  ·obtain ⟨b,off,rfl,hbB,hc0,hc1,hc2,hc3⟩:=hcell k hlt
   have hd0:wr.cell? ⟨b,off+k*4,none⟩=some (.string l[k].path):=(hb.cell (p:=⟨b,off+k*4,none⟩) (by show b < _;omega)).trans hc0
   have hd1:wr.cell? ⟨b,off+k*4+1,none⟩=some (.int .i64 l[k].rule):=(hb.cell (p:=⟨b,off+k*4+1,none⟩) (by show b < _;omega)).trans hc1
   have hd2:wr.cell? ⟨b,off+k*4+2,none⟩=some (.int .i64 l[k].start):=(hb.cell (p:=⟨b,off+k*4+2,none⟩) (by show b < _;omega)).trans hc2
   have hd3:wr.cell? ⟨b,off+k*4+3,none⟩=some (.int .i64 l[k].stop):=(hb.cell (p:=⟨b,off+k*4+3,none⟩) (by show b < _;omega)).trans hc3
   have hblt:=World.block_lt_of_cell? wr _ hd0
   have hsz:=hb.size
   clear hcell hc0 hc1 hc2 hc3
   have hbb:=hb.alloc (o:= .cells #[.string l[k].path, .int .i64 l[k].rule, .int .i64 l[k].start, .int .i64 l[k].stop] 49) hsz
   go_wp2_with fail
   refine (HF.out l[k] (List.getElem_mem hlt) _ hbb).mono ?_
   rintro e w2 ⟨rfl,hb1⟩
   have hc:w2.cell? ⟨wr.heap.size,0,none⟩=some (.string l[k].path):=cell_later hb1 (by simp [go_sem])
   have hc1:w2.cell? ⟨wr.heap.size,1,none⟩=some (.int .i64 l[k].rule):=cell_later hb1 (by simp [go_sem])
   have hc2:w2.cell? ⟨wr.heap.size,2,none⟩=some (.int .i64 l[k].start):=cell_later hb1 (by simp [go_sem])
   have hc3:w2.cell? ⟨wr.heap.size,3,none⟩=some (.int .i64 l[k].stop):=cell_later hb1 (by simp [go_sem])
   have hb2:=below_step hb1 hbb
   have hown2:=own_below (own_below hown ((Below.refl _ _).alloc (Nat.le_refl _) (.cells #[.string l[k].path, .int .i64 l[k].rule, .int .i64 l[k].start, .int .i64 l[k].stop] 49)) (Nat.le_refl _)) hb1 (Nat.le_refl _)
   clear hd0 hd1 hd2 hd3 hown hb hb1 hbb
   cases hq:p l[k]
   ·have HE:=Lib.hid (filter_no hlt hq)
    clear hq
    have H:=Lib.hid (And.intro hown2 hb2)
    clear hown2 hb2
    go_wp2
    go_roundw
    case rel=> exact ⟨k+1,n,by omega,by go_num,by omega,by rw [HE.out];exact HN.out,by rw [HE.out];exact H.out.1,H.out.2⟩
    case measure=> simp [intOf];omega
   ·have HE:=Lib.hid (filter_yes hlt hq)
    clear hq
    go_wp2_with (at_builtin;refine wpList_app _ rfl (.tmp 18) (.tmp 20) 44 rfl w.heap.size 49 i0 (.agg #[.string ⟨#[]⟩, .int .i64 0, .int .i64 0, .int .i64 0]) 4 40 Tryd.underlying44 hi hz0 hz1 hz2 rfl (by decide) _ n _ rfl (own_below hown2 ((Below.refl _ _).alloc (Nat.le_refl _) _) (Nat.le_refl _)) _ 1 _ (entCells l[k]) rfl (sl_ent_one (e:=l[k]) (by simp)) (entCells_one _) (by omega) (by unfold maxLen;omega) (by have:=hb2.size;simp;omega) ?_;intro v1 w1 own1 hg1 _)
    have hb3:=below_app hg1 (own_below hown2 ((Below.refl _ _).alloc (Nat.le_refl _) _) (Nat.le_refl _)) (Nat.le_refl _) (by have:=hb2.size;simp;omega) (hb2.alloc hb2.size _)
    rw [←entsCells_snoc,←HE.out] at own1
    have H:=Lib.hid (And.intro own1 hb3)
    clear own1 hb3 hg1 hown2 hb2 hc hc1 hc2 hc3
    go_roundw
    case rel=> exact ⟨k+1,n+1,by omega,by go_num,by omega,by rw [HE.out,List.length_append,←HN.out];rfl,H.out.1,H.out.2⟩
    case measure=> simp [intOf];omega
  ·have hkl:k=l.length:=by omega
   have hn2:=HN.out
   rw [hkl,List.take_length] at hown hn2
   rw [hn2] at hown
   have H:=Lib.hid (And.intro hown hb)
   clear hcell hkl hown hb hn2 HN hn
   go_wp2
   go_ret
   exact ⟨_,rfl,H.out.1,H.out.2⟩
set_option maxHeartbeats 2000000 in
theorem leaf1_any (e:Ent) (A:Option Addr) (c:Nat) (l:List RM) (B g:Nat) (w:World) (h:SlD w B (.slice A l.length c) l) (hB:B≤w.heap.size) (hp:w.cell? ⟨g,0,none⟩=some (.slice A l.length c)):
  Calls Tryd.prog 60 #[entV e, .pointer (some ⟨g,0,none⟩)] w fun r w'=> r= .returned (.bool (leafB (l.map RM.d) e))∧Below w.heap.size w w':=by
 have hR:∀W,Below w.heap.size w W→Calls Tryd.prog 61 #[.agg #[.slice A l.length c], .int .i64 e.rule] W fun e' w'=> e'= .returned (.bool (inB e.rule 0 ((l.length:Int) - 1)))∧Below W.heap.size W w':=fun W hb=>
  hasRule_any _ l e.rule B W (h.below (hb.mono hB))
 have HR:=Lib.hid hR
 have hlt:=World.block_lt_of_cell? w _ hp
 unfold entV
 have hb0:=Below.allocW w (.cells #[.string e.path, .int .i64 e.rule, .int .i64 e.start, .int .i64 e.stop] 49) (Nat.le_refl _)
 have cp:=cell_later hb0 hp
 have c1:(w.alloc (.cells #[.string e.path, .int .i64 e.rule, .int .i64 e.start, .int .i64 e.stop] 49)).cell? ⟨w.heap.size,1,none⟩=some (.int .i64 e.rule):=by simp [go_sem]
 cases hi:inB e.rule 0 ((l.length:Int) - 1)
 ·have HX:=Lib.hid (leafB_no (D:=l.map RM.d) (e:=e) (by rw [List.length_map];exact hi))
  rw [hi] at HR
  clear hi h hR
  go_enter Tryd.func60,Tryd.ntmps60
  go_wp2_with fail
  refine (HR.out _ hb0).mono ?_
  rintro e w1 ⟨rfl,bel⟩
  have b1:=below_step bel hb0
  clear bel
  go_wp2
  go_ret
  exact ⟨ret_bool HX.out.symm,b1⟩
 ·obtain ⟨k,hk,he,hx⟩:=leafB_at (D:=l.map RM.d) (e:=e) (by rw [List.length_map];exact hi)
  have hkl:k < l.length:=by simpa using hk
  rw [List.getElem_map] at hx
  have HX:=Lib.hid (show leafB (l.map RM.d) e=leafK l[k].d.kind from hx)
  rw [hi] at HR
  obtain ⟨b,off,A1,c1',A2,c2,A3,c3,A4,c4,rfl,hbB, -, -, -, -,m1,m2,m3,m4,hcell⟩:=rule_cells h k hkl
  have HC:=Lib.hid hcell
  have hR0:=HR.out _ hb0
  rw [he] at hR0 c1 cp hb0 ⊢
  clear hi h hR HR hcell m1 m2 m3 m4 hx hk
  generalize l[k]=r at*
  go_enter Tryd.func60,Tryd.ntmps60
  go_wp2_with fail
  refine hR0.mono ?_
  rintro e w1 ⟨rfl,bel⟩
  have b1:=below_step bel hb0
  have d1:=cell_later bel c1
  have dp:=cell_later bel cp
  obtain ⟨-,x1, -, -, -, -, -, -⟩:=HC.out w1 (below_cells b1 hB)
  clear bel cp c1 hR0
  obtain ⟨kind,hkind⟩:∃x,r.d.kind=x:=⟨_,rfl⟩
  rw [hkind] at x1 HX
  clear HC hkind r
  by_cases q1:kind=1
  ·subst q1
   go_wp2
   go_ret
   exact ⟨ret_bool HX.out.symm,b1⟩
  by_cases q2:kind=2
  ·subst q2
   go_wp2
   go_ret
   exact ⟨ret_bool HX.out.symm,b1⟩
  by_cases q3:kind=3
  ·subst q3
   go_wp2
   go_ret
   exact ⟨ret_bool HX.out.symm,b1⟩
  by_cases q4:kind=4
  ·subst q4
   go_wp2
   go_ret
   exact ⟨ret_bool HX.out.symm,b1⟩
  by_cases q10:kind=10
  ·subst q10
   go_wp2
   go_ret
   exact ⟨ret_bool HX.out.symm,b1⟩
  have e1:(kind==1)=false:=beq_eq_false_iff_ne.2 q1
  have e2:(kind==2)=false:=beq_eq_false_iff_ne.2 q2
  have e3:(kind==3)=false:=beq_eq_false_iff_ne.2 q3
  have e4:(kind==4)=false:=beq_eq_false_iff_ne.2 q4
  have e10:(kind==10)=false:=beq_eq_false_iff_ne.2 q10
  have HY:=Lib.hid (HX.out.trans (show leafK kind=false by unfold leafK;rw [e1,e2,e3,e4,e10];rfl))
  clear q1 q2 q3 q4 q10
  go_wp2
  go_ret
  exact ⟨ret_bool HY.out.symm,b1⟩
theorem implLeaf_any (v u:Value) (l:List RM) (E:List Ent) (B:Nat) (w:World) (h:SlD w B v l) (h2:SlE w B u E) (hB:B≤w.heap.size) (hl:E.length≤1000000000000):
  Calls Tryd.prog 21 #[.agg #[v],u] w (Fresh w 49 4 (E.filter (leafB (l.map RM.d))).length (entsCells (E.filter (leafB (l.map RM.d))))):=by
 have hmf:∀(fn:Fn) (first cap:Array Value) (w:World),(Instr.makeFunc fn first cap).run Tryd.prog w= .ok (.func fn first cap) w:=fun _ _ _ _=> rfl
 obtain ⟨A,c,rfl,hc,hm, -⟩:=h.open_
 have hb0:=Below.allocW w (.cells #[.slice A l.length c] 26) (Nat.le_refl _)
 have cp:(w.alloc (.cells #[.slice A l.length c] 26)).cell? ⟨w.heap.size,0,none⟩=some (.slice A l.length c):=by simp [go_sem]
 go_enter Tryd.func21,Tryd.ntmps21
 go_wp2_with fail
 refine (select_leaf _ (leafB (l.map RM.d)) u E B _ (h2.below (hb0.mono hB)) (by simp;omega) hl (fun e _ W hW=> leaf1_any e A c l B w.heap.size W ((h.below (hb0.mono hB)).below (hW.mono (by simp;omega))) (by have:=hW.size;simp at this;omega) (cell_later hW cp))).mono ?_
 rintro e w2 ⟨v2,rfl,own2,hb2⟩
 have H:=Lib.hid (And.intro (own_base (base':=w.heap.size) own2 (by simp)) (below_step hb2 hb0))
 clear own2 hb2
 go_wp2
 go_ret
 exact ⟨_,rfl,H.out.1,H.out.2⟩
end Go.Proofs.YteldgdelmaeokaaDoor
namespace Go.Proofs.YteldgdelmaeokaaDoor
open Go.ChangeShapes Go.WideShapes Go.ChangeAt Go.RowKit Go.Deep
def Ent.ok (e:Ent):Prop:=e.path.size≤maxLen∧InI64 e.rule∧InI64 e.start∧InI64 e.stop
section
variable {H:Type} {enc:TypeId × Value→H} {w:World}
end
end Go.Proofs.YteldgdelmaeokaaDoor
namespace Go.Proofs.YteldgdelmaeokaaDoor
open Go.RowKit
def lastTo (p:Nat→Bool):Nat→Int
 |0=> -1
 |k+1=> if p k then k else lastTo p k
theorem lastTo_yes {p:Nat→Bool} {k:Nat} (hp:p k=true):lastTo p (k+1)=k:=by rw [lastTo,if_pos hp]
theorem lastTo_no {p:Nat→Bool} {k:Nat} (hp:p k=false):lastTo p (k+1)=lastTo p k:=by rw [lastTo,if_neg (by simp [hp])]
def hit (q:Ent→Bool) (l:List Ent) (k:Nat):Bool:=(l[k]?.map q).getD false
theorem hit_at {q:Ent→Bool} {l:List Ent} {k:Nat} (h:k < l.length):hit q l k=q l[k]:=by simp [hit,h]
end Go.Proofs.YteldgdelmaeokaaDoor
namespace Go.Proofs.YteldgdelmaeokaaDoor
open Go.RowKit
def holdsAt (x:Int) (e:Ent):Bool:=decide (e.start≤x) && decide (x < e.stop)
set_option maxHeartbeats 400000 in
theorem placed_any (e:Ent) (w:World):
  Calls Tryd.prog 57 #[entV e] w fun x w'=> x= .returned (.agg #[.string e.path, .int .i64 e.rule, .int .i64 e.start, .int .i64 e.stop, .int .i64 e.start, .int .i64 e.stop])∧Below w.heap.size w w':=by
 unfold entV
 go_enter Tryd.func57,Tryd.ntmps57
 go_wp2
 refine bodyPost_ret (v:= .agg #[.string e.path, .int .i64 e.rule, .int .i64 e.start, .int .i64 e.stop, .int .i64 e.start, .int .i64 e.stop]) (by simp [results,Tryd.results57,go_sem]) rfl ⟨rfl,?_⟩
 exact (by repeat (first|exact Below.refl _ _|assumption|refine Below.alloc ?_ (by first|omega|(simp <;> omega)) _|refine Below.setCell ?_ (by first|omega|(simp <;> omega)) _|refine Below.drew ?_|refine below_drewN ?_ _))
theorem field_span (x0 x1 x2 x3 x4 x5:Value) (w:World):(Instr.field 91 (.agg #[x0,x1,x2,x3,x4,x5]) 1).run Tryd.prog w= .ok (.agg #[x4,x5]) w:=by kernel_rfl
set_option maxHeartbeats 1000000 in
theorem implEntryAt_any (v:Value) (l:List Ent) (x:Int) (B:Nat) (w:World) (h:SlE w B v l) (hB:B≤w.heap.size):
  Calls Tryd.prog 20 #[v, .int .i64 x] w fun e w'=> e= .returned (.int .i64 (lastTo (hit (holdsAt x) l) l.length))∧Below w.heap.size w w':=by
 obtain ⟨A,c,rfl,hc,hm,hcell⟩:=h.open_
 unfold maxLen at hm
 clear h
 have hfs:=field_span
 go_enter Tryd.func20,Tryd.ntmps20
 go_wp2
 go_loopw [5] (fun i wr=> ∃k:Nat,k≤l.length∧i= .int .i64 ((k:Int) - 1)∧lastTo (hit (holdsAt x) l) l.length=lastTo (hit (holdsAt x) l) k∧Below w.heap.size w wr) (fun i _=> (intOf i+1).toNat)
 case atStart=> exact ⟨l.length,Nat.le_refl _,rfl,rfl,Below.refl _ _⟩
 case round=>
  obtain ⟨k,hk,rfl,hf,hb⟩:=hrel
  have HF:=Lib.hid hf
  clear hf
  by_cases hpos:0 < k
  ·obtain ⟨j,rfl⟩:∃j,k=j+1:=⟨k - 1,by omega⟩
   have hlt:j < l.length:=by omega
   rw [show ((j+1:Nat):Int) - 1=(j:Int) from by omega]
   obtain ⟨b,off,rfl,hbB,hc0,hc1,hc2,hc3⟩:=hcell j hlt
   have hd0:=cell_later hb hc0
   have hd1:=cell_later hb hc1
   have hd2:=cell_later hb hc2
   have hd3:=cell_later hb hc3
   have hblt:=World.block_lt_of_cell? wr _ hd0
   have hsz:=hb.size
   clear hcell hc0 hc1 hc2 hc3
   by_cases h1:l[j].start≤x
   ·by_cases h2:x < l[j].stop
    ·have HX:=Lib.hid (HF.out.trans (lastTo_yes (p:=hit (holdsAt x) l) (k:=j) (by rw [hit_at hlt];simp [holdsAt,h1,h2])))
     go_wp2_with (first|(go_at_call 57;refine (placed_any l[j] _).mono ?_;rintro e w2 ⟨rfl,hb1⟩)|go_in)
     go_ret
     exact ⟨ret_int HX.out.symm,(below_step hb1 hb).alloc (by have:=hb1.size;omega) _⟩
    ·have HX:=Lib.hid (HF.out.trans (lastTo_no (p:=hit (holdsAt x) l) (k:=j) (by rw [hit_at hlt];simp [holdsAt];omega)))
     have hd2:decide (x < l[j].stop)=false:=by simpa using h2
     go_wp2_with (first|(go_at_call 57;refine (placed_any l[j] _).mono ?_;rintro e w2 ⟨rfl,hb1⟩)|go_in)
     go_roundw
     case rel=> exact ⟨j,by omega,by go_num,HX.out,(below_step hb1 hb).alloc (by have:=hb1.size;omega) _⟩
     case measure=> simp [intOf] <;> omega
   ·have HX:=Lib.hid (HF.out.trans (lastTo_no (p:=hit (holdsAt x) l) (k:=j) (by rw [hit_at hlt];simp [holdsAt];omega)))
    have hd1:decide (l[j].start≤x)=false:=by simpa using h1
    go_wp2_with (first|(go_at_call 57;refine (placed_any l[j] _).mono ?_;rintro e w2 ⟨rfl,hb1⟩)|go_in)
    go_roundw
    case rel=> exact ⟨j,by omega,by go_num,HX.out,(below_step hb1 hb).alloc (by have:=hb1.size;omega) _⟩
    case measure=> simp [intOf] <;> omega
  ·obtain rfl:k=0:=by omega
   have HX:=Lib.hid (HF.out.trans rfl)
   clear hcell
   go_wp2
   go_ret
   exact ⟨ret_int (HX.out.trans rfl).symm,hb⟩
end Go.Proofs.YteldgdelmaeokaaDoor
namespace Go.Proofs.YteldgdelmaeokaaDoor
open Go.RowKit
def pText (s:ByteArray):ByteArray:=if s.toList== [] then ⟨#[46]⟩ else s
def entText (s A B:ByteArray):ByteArray:=pText s++⟨#[32]⟩++A++⟨#[45]⟩++B
theorem pathText_any (s:ByteArray) (w:World):
  Calls Tryd.prog 62 #[.string s] w fun e w'=> e= .returned (.string (pText s))∧w=w':=by
 cases he:(s.toList== [])
 ·have H:=Lib.hid (show pText s=s by rw [pText,he];rfl)
  go_enter Tryd.func62,Tryd.ntmps62
  go_wp2
  go_ret
  exact ⟨ret_str (by rw [H.out]),rfl⟩
 ·have H:=Lib.hid (show pText s=⟨#[46]⟩ by rw [pText,he];rfl)
  go_enter Tryd.func62,Tryd.ntmps62
  go_wp2
  go_ret
  exact ⟨ret_str (by rw [H.out]),rfl⟩
set_option maxHeartbeats 2000000 in
theorem implFormatEntry_any (s:ByteArray) (r p b:Int) (w:World) (hs:s.size≤1048576) (hp:InI64 p) (hb:InI64 b) (ht:Tab w):
  Calls Tryd.prog 22 #[.agg #[.string s, .int .i64 r, .int .i64 p, .int .i64 b]] w fun e w'=> e= .returned (.string (entText s (str (fmtI p)) (str (fmtI b))))∧Below w.heap.size w w':=by
 have hA:∀W,Below w.heap.size w W→Calls Tryd.prog 45 #[.int .i64 p] W fun e w'=> e= .returned (.string (str (fmtI p)))∧Below W.heap.size W w':=fun W h=> implFormatInt_any p W hp (tab_on ht h)
 have hB:∀W,Below w.heap.size w W→Calls Tryd.prog 45 #[.int .i64 b] W fun e w'=> e= .returned (.string (str (fmtI b)))∧Below W.heap.size W w':=fun W h=> implFormatInt_any b W hb (tab_on ht h)
 have zA:=fmtI_size p hp
 have zB:=fmtI_size b hb
 clear hp hb ht
 generalize str (fmtI p)=A at*
 generalize str (fmtI b)=B at*
 have HA:=Lib.hid hA
 have HB:=Lib.hid hB
 clear hA hB
 obtain ⟨T,hT⟩:∃T,T=pText s:=⟨_,rfl⟩
 have hTs:T.size≤1048576:=by
  rw [hT];unfold pText
  split
  ·show 1≤1048576;omega
  ·exact hs
 have q0:¬(9223372036854775807 < T.size+1):=by omega
 have q1:¬(9223372036854775807 < T.size+1+A.size):=by omega
 have q2:¬(9223372036854775807 < T.size+1+A.size+1):=by omega
 have q3:¬(9223372036854775807 < T.size+1+A.size+1+B.size):=by omega
 have H:=Lib.hid (show entText s A B=T++⟨#[32]⟩++A++⟨#[45]⟩++B by rw [entText,hT])
 have b0:Below w.heap.size w (w.alloc (.cells #[.string s, .int .i64 r, .int .i64 p, .int .i64 b] 49)):=(Below.refl _ _).alloc (Nat.le_refl _) _
 have k0:(w.alloc (.cells #[.string s, .int .i64 r, .int .i64 p, .int .i64 b] 49)).cell? ⟨w.heap.size,0,none⟩=some (.string s):=by simp [go_sem]
 have k1:(w.alloc (.cells #[.string s, .int .i64 r, .int .i64 p, .int .i64 b] 49)).cell? ⟨w.heap.size,2,none⟩=some (.int .i64 p):=by simp [go_sem]
 have k2:(w.alloc (.cells #[.string s, .int .i64 r, .int .i64 p, .int .i64 b] 49)).cell? ⟨w.heap.size,3,none⟩=some (.int .i64 b):=by simp [go_sem]
 have HP:=Lib.hid (fun W=> pathText_any s W)
 rw [←hT] at HP
 clear hT hTs
 go_enter Tryd.func22,Tryd.ntmps22
 go_wp2_with fail
 go_region_held3 (fun w9=> w9.cell? ⟨w.heap.size,0,none⟩=some (.string s)∧w9.cell? ⟨w.heap.size,2,none⟩=some (.int .i64 p)∧w9.cell? ⟨w.heap.size,3,none⟩=some (.int .i64 b))
  (first|exact ⟨k0,k1,k2⟩|exact ⟨cell_later bel1 k0,cell_later bel1 k1,cell_later bel1 k2⟩|exact ⟨cell_later bel2 (cell_later bel1 k0),cell_later bel2 (cell_later bel1 k1),cell_later bel2 (cell_later bel1 k2)⟩)
  (first
    |(go_at_call 62;refine (HP.out _).mono ?_;rintro e w0 ⟨rfl,rfl⟩)
    |(go_at_call_has 45 p;refine (HA.out _ b0.drew).mono ?_;rintro e w1 ⟨rfl,bel1⟩;have b1:=below_step bel1 b0.drew)
    |(go_at_call_has 45 b;refine (HB.out _ b1).mono ?_;rintro e w2 ⟨rfl,bel2⟩;have b2:=below_step bel2 b1))
 all_goals (go_wp2;go_ret;exact ⟨ret_str (by rw [H.out]),b2⟩)
end Go.Proofs.YteldgdelmaeokaaDoor
