/- Out of ValHd, ValHe, Rg2, ValCp: the walks and plain laws that the claim needs. No condition but those that each theorem names. -/
import Derived.Test.YteldgdelmaeokaaGreatDoorGf
import Derived.WalkSpells
import Derived.WalkLawsBesides
import Derived.Deep.RegionHeld3
import Derived.Test.YteldgdelmaeokaaGreatDoorGb
import Derived.OwnWalk
import Derived.Deep.DeepCutAuto
set_option linter.unusedSimpArgs false
set_option linter.unusedVariables false
set_option maxHeartbeats 4000000
set_option maxRecDepth 100000
namespace Go.Proofs.YteldgdelmaeokaaGreatDoor
open Go.Proofs.Tryz Go.RowKit
def MkV (lo hi:Nat) (w:World) (v:Value) (k r:Int):Prop:=∃(x:VM) (j:Nat),k=j∧r=(j+x.d.size:Nat)∧j+x.d.size≤4611686018427387000∧v=Qs x∧Ug (x.mkd j) lo hi w
theorem MkV.keep {lo hi lo' hi':Nat} {w w':World} {v:Value} {k r:Int} (h:MkV lo hi w v k r) (ho:Xq lo' hi' w w') (hd:hi≤lo'∨hi'≤lo):MkV lo hi w' v k r:=by
 obtain ⟨x,j,h1,h2,h3,h4,h5⟩:=h
 exact ⟨x,j,h1,h2,h3,h4,h5.keep ho hd⟩
theorem Rd {P:Program} {ops:Array Oper} {Q:Exit→Act→World→Prop} {md:Region.Mode} {S:World→Prop} {oi oj:Oper} {fuel:Nat} {listed:Array Bool} {a:Act} {w:World} (i j:Nat)
  (h1:∀K':Act→World→Prop,Shut (∀a w,S w→(S w→wpAnyH P md ops Q S fuel (listed.setIfInBounds i true) a w)→K' a w)→Oper.wp P oi a w K' Q)
  (h2:∀K':Act→World→Prop,Shut (∀a w,S w→(S w→wpAnyH P md ops Q S fuel (listed.setIfInBounds j true) a w)→K' a w)→Oper.wp P oj a w K' Q)
  (hr:Region.ready md ops listed= [i,j]:=by kernel_rfl) (hi:Uu ops.toList i=some oi:=by rfl) (hj:Uu ops.toList j=some oj:=by rfl) (hwi:Region.wanted oi (yielded ops a.tmps)=true:=by rfl) (hwj:Region.wanted oj (yielded ops a.tmps)=true:=by rfl):wpAnyH P md ops Q S (fuel+1) listed a w:=
 wpAnyH_ready hr (by simp) (AllReadyH.cons (Vi hi) (fun K' hK=> by rw [if_pos hwi];exact h1 K' hK) (AllReadyH.cons (Vi hj) (fun K' hK=> by rw [if_pos hwj];exact h2 K' hK) AllReadyH.nil))
theorem rgThree {P:Program} {ops:Array Oper} {Q:Exit→Act→World→Prop} {md:Region.Mode} {S:World→Prop} {oi oj ok:Oper} {fuel:Nat} {listed:Array Bool} {a:Act} {w:World} (i j k:Nat) (hr:Region.ready md ops listed= [i,j,k]) (hi:Uu ops.toList i=some oi) (hj:Uu ops.toList j=some oj) (hk:Uu ops.toList k=some ok) (hwi:Region.wanted oi (yielded ops a.tmps)=true) (hwj:Region.wanted oj (yielded ops a.tmps)=true) (hwk:Region.wanted ok (yielded ops a.tmps)=true)
  (h1:∀K':Act→World→Prop,Shut (∀a w,S w→(S w→wpAnyH P md ops Q S fuel (listed.setIfInBounds i true) a w)→K' a w)→Oper.wp P oi a w K' Q)
  (h2:∀K':Act→World→Prop,Shut (∀a w,S w→(S w→wpAnyH P md ops Q S fuel (listed.setIfInBounds j true) a w)→K' a w)→Oper.wp P oj a w K' Q)
  (h3:∀K':Act→World→Prop,Shut (∀a w,S w→(S w→wpAnyH P md ops Q S fuel (listed.setIfInBounds k true) a w)→K' a w)→Oper.wp P ok a w K' Q):wpAnyH P md ops Q S (fuel+1) listed a w:=
 wpAnyH_ready hr (by simp) (AllReadyH.cons (Vi hi) (fun K' hK=> by rw [if_pos hwi];exact h1 K' hK) (AllReadyH.cons (Vi hj) (fun K' hK=> by rw [if_pos hwj];exact h2 K' hK) (AllReadyH.cons (Vi hk) (fun K' hK=> by rw [if_pos hwk];exact h3 K' hK) AllReadyH.nil)))
theorem Yx {P:Program} (w:World) {o:Oper} {a:Act} {K:Act→World→Prop} {Q:Exit→Act→World→Prop}
  (l c:Operand) (t:TypeId) (hop:o.op=Op.makeSlice t l c)
  (base:Nat) (e:TypeId) (i:TypeInfo) (z:Value) (size:Nat) (h1:P.underlying t=some (.slice e)) (h2:P.info? e=some i) (h3:i.zero=some z) (h4:i.size=size)
  (kl kc:IntKind) (C:Int) (n:Nat) (hl:a.eval l= .int kl 0) (hc:a.eval c= .int kc C) (hC:C=(n:Int)) (b2:i.bytes*n≤281474976710656) (b3:n≤maxLen) (b4:base≤w.heap.size)
  (hK:∀w',w'.ownsRow base e size (.slice (some ⟨w.heap.size,0,none⟩) 0 n) 0 []→w.grownBy w' none→K (a.put o.dst (.slice (some ⟨w.heap.size,0,none⟩) 0 n)) w'):
  Oper.wp P o a w K Q:=by
 obtain ⟨w',hrun,r1,r2⟩:=run_make_own (P:=P) w base t e i z size h1 h2 h3 h4 kl kc n b2 b3 b4
 subst hC
 unfold Oper.wp
 simp [execOp,hop,hl,hc,hrun,Result.andThen]
 exact hK w' r1 r2
theorem Td {w:World} {o:Nat} {E:TypeId} {a b c:Value} (h:w.heap[o]?=some (.cells #[a,b,c] E (0,0))):w.cell? ⟨o,0,none⟩=some a∧w.cell? ⟨o,1,none⟩=some b∧w.cell? ⟨o,2,none⟩=some c:=
 ⟨cell_of_row _ _ 0 _ _ (0,0) h,cell_of_row _ _ 1 _ _ (0,0) h,cell_of_row _ _ 2 _ _ (0,0) h⟩
theorem Yl {x:VM} {A1 A2:Option Addr} {n1 n2 c1 c2:Nat} (h1:x.vb= .slice A1 n1 c1) (h2:x.vi= .slice A2 n2 c2):∀u∈Ze x,u.oneCell'=true:=by
 intro u hu
 simp only [Ze,h1,h2,List.mem_cons,List.mem_nil_iff,or_false] at hu
 rcases hu with rfl|rfl|rfl <;> rfl
theorem Tk {W:World} {x:VM} {t:TypeId} {g:Nat} (hg:g=W.heap.size):Sl (W.alloc (.cells #[.int .i64 x.n,x.vb,x.vi] t)) (W.heap.size+1) 3 (.slice (some ⟨g,0,none⟩) 1 1) 1 (Ze x):=by
 subst hg
 refine ⟨rfl,_,_,rfl,Fu _,by simp [maxLen],fun _=> ⟨W.heap.size,0,rfl,by omega,fun j u hu=> ?_⟩⟩
 match j,hu with
 |0,hu=> simp only [Ze,List.getElem?_cons_zero,Option.some.injEq] at hu;subst hu;simp [go_sem]
 |1,hu=> simp only [Ze,List.getElem?_cons_succ,List.getElem?_cons_zero,Option.some.injEq] at hu;subst hu;simp [go_sem]
 |2,hu=> simp only [Ze,List.getElem?_cons_succ,List.getElem?_cons_zero,Option.some.injEq] at hu;subst hu;simp [go_sem]
 |j+3,hu=> simp [Ze] at hu
structure Qg (w:World) (lo o:Nat) (b:List UInt8) (vb vi:Value) (D:List VM):Prop where
 bytes:w.ownsRow lo 5 1 vb b.length (Uy b)
 row:w.ownsRow lo 29 3 vi D.length (D.flatMap Ze)
 its:∀x∈D,x.own lo w
 nd:(o::(vb.ownBlock.toList++(vi.ownBlock.toList++VM.bkss D))).Nodup
theorem Qg.keepB {w w':World} {lo o:Nat} {b:List UInt8} {vb vi:Value} {D:List VM} {bs:List Nat} (h:Qg w lo o b vb vi D) (ho:Xg bs w w') (hd:∀g∈vb.ownBlock.toList++(vi.ownBlock.toList++VM.bkss D),g ∉ bs):Qg w' lo o b vb vi D:=
 ⟨Lc h.bytes ho fun g hg=> hd g (by rw [hg];simp),Lc h.row ho fun g hg=> hd g (by rw [hg];simp),fun x hx=> (h.its x hx).keepB ho fun g hg=> hd g (by simp only [List.mem_append];exact .inr (.inr (VM.mem_bkss hx hg))),h.nd⟩
theorem Qg.lt {w:World} {lo o:Nat} {b:List UInt8} {vb vi:Value} {D:List VM} (h:Qg w lo o b vb vi D):∀g∈vb.ownBlock.toList++(vi.ownBlock.toList++VM.bkss D),lo≤g∧g < w.heap.size:=by
 intro g hg
 simp only [List.mem_append,Option.mem_toList] at hg
 rcases hg with hg|hg|hg
 ·exact h.bytes.lt g hg
 ·exact h.row.lt g hg
 ·have:∀l':List VM,(∀y∈l',y∈D)→g∈VM.bkss l'→lo≤g∧g < w.heap.size:=by
   intro l'
   induction l' with
   |nil=> intro _ h;rw [VM.bkss_nil] at h;simp at h
   |cons y l' ih'=>
    intro hs h'
    rw [VM.bkss_cons,List.mem_append] at h'
    rcases h' with h'|h'
    ·exact (h.its y (hs y (by simp))).lt g h'
    ·exact ih' (fun z hz=> hs z (by simp [hz])) h'
  exact this D (fun y hy=> hy) hg
theorem Qg.below {w w':World} {lo o:Nat} {b:List UInt8} {vb vi:Value} {D:List VM} (h:Qg w lo o b vb vi D) (hb:Below w.heap.size w w'):Qg w' lo o b vb vi D:=
 h.keepB (bs:= []) (Xg.of_below hb) fun g _=> by simp
theorem Qg.store {w:World} {lo o i:Nat} {b:List UInt8} {vb vi:Value} {D:List VM} (h:Qg w lo o b vb vi D) (u:Value):Qg (w.setCell ⟨o,i,none⟩ u) lo o b vb vi D:=
 h.keepB (bs:= [o]) (Xg.of_grown (Jj w o i u) fun q e=> by cases e;simp) fun g hg hm=> by
  have hn:=h.nd
  rw [List.nodup_cons] at hn
  simp only [List.mem_singleton] at hm
  exact hn.1 (hm ▸ hg)
theorem Qg.snoc {w w2 w3:World} {lo o:Nat} {b:List UInt8} {vb vi vi':Value} {D:List VM} {x:VM} (h:Qg w2 lo o b vb vi D) (hx:Ug x w.heap.size w2.heap.size w2) (hlt:∀g∈o::(vb.ownBlock.toList++(vi.ownBlock.toList++VM.bkss D)),g < w.heap.size) (hw:w.heap.size≤w2.heap.size) (hlo:lo≤w.heap.size)
  {wa:World} (ha:Below w2.heap.size w2 wa) (hr:w3.ownsRow lo 29 3 vi' (D.length+1) (D.flatMap Ze++Ze x)) (hg:wa.grownBy w3 vi.ownBlock) (hv:vi'.ownBlock=vi.ownBlock∨vi'.ownBlock=some wa.heap.size):Qg w3 lo o b vb vi' (D++ [x]):=by
 have h1:=h.below ha
 have hx1:=hx.keep (Xq.of_below ha 0 0) (.inr (Eb _))
 have og:Xg vi.ownBlock.toList wa w3:=Xg.of_grown hg fun q e=> by rw [e];simp
 have hnd:=h.nd
 rw [List.nodup_cons,List.nodup_append,List.nodup_append] at hnd
 obtain ⟨ho,hb1,⟨hb2,hb3,hb4⟩,hb5⟩:=hnd
 have hz:=ha.size
 have hxv:∀g∈x.bks,∀q∈o::(vb.ownBlock.toList++(vi.ownBlock.toList++VM.bkss D)),g≠q:=fun g hg q hq e=> by have:=hx.rng g hg;have:=hlt q hq;omega
 refine ⟨Lc h1.bytes og fun g hg hm=> hb5 g (by rw [hg];simp) g (List.mem_append_left _ hm) rfl,?_,fun y hy=> ?_,?_⟩
 ·rw [List.length_append,List.flatMap_append]
  simpa using hr
 ·simp only [List.mem_append,List.mem_singleton] at hy
  rcases hy with hy|rfl
  ·exact (h1.its y hy).keepB og fun g hg hm=> hb4 g hm g (VM.mem_bkss hy hg) rfl
  ·exact (hx1.own.keepB og fun g hg hm=> hxv g hg g (List.mem_cons_of_mem _ (List.mem_append_right _ (List.mem_append_left _ hm))) rfl).base hlo
 ·rw [VM.bkss_append,VM.bkss_cons,VM.bkss_nil,List.append_nil]
  have hvi:∀g∈vi'.ownBlock.toList,g∈vi.ownBlock.toList∨g=wa.heap.size:=fun g hg=> by
   rcases hv with e|e
   ·rw [e] at hg;exact .inl hg
   ·rw [e] at hg;simp at hg;exact .inr hg
  have hbig:∀q∈o::(vb.ownBlock.toList++(vi.ownBlock.toList++VM.bkss D)),q≠wa.heap.size:=fun q hq e=> by have:=hlt q hq;omega
  have hxb:∀g∈x.bks,g≠wa.heap.size:=fun g hg e=> by have:=hx.rng g hg;omega
  rw [List.nodup_cons,List.nodup_append,List.nodup_append,List.nodup_append]
  refine ⟨?_,hb1,⟨by cases vi'.ownBlock <;> simp,⟨hb3,hx.nd,fun a ha c hc e=> hxv c hc a (List.mem_cons_of_mem _ (List.mem_append_right _ (List.mem_append_right _ ha))) e.symm⟩,fun a ha c hc e=> ?_⟩,fun a ha c hc e=> ?_⟩
  ·intro hm
   simp only [List.mem_append] at hm
   rcases hm with hm|hm|hm|hm
   ·exact ho (List.mem_append_left _ hm)
   ·rcases hvi o hm with e|e
    ·exact ho (List.mem_append_right _ (List.mem_append_left _ e))
    ·exact hbig o List.mem_cons_self e
   ·exact ho (List.mem_append_right _ (List.mem_append_right _ hm))
   ·exact hxv o hm o List.mem_cons_self rfl
  ·subst e
   rw [List.mem_append] at hc
   rcases hvi a ha with e|e
   ·rcases hc with hc|hc
    ·exact hb4 a e a hc rfl
    ·exact hxv a hc a (List.mem_cons_of_mem _ (List.mem_append_right _ (List.mem_append_left _ e))) rfl
   ·rcases hc with hc|hc
    ·exact hbig a (List.mem_cons_of_mem _ (List.mem_append_right _ (List.mem_append_right _ hc))) e
    ·exact hxb a hc e
  ·subst e
   simp only [List.mem_append] at hc
   rcases hc with hc|hc|hc
   ·rcases hvi a hc with e|e
    ·exact hb5 a ha a (List.mem_append_left _ e) rfl
    ·exact hbig a (List.mem_cons_of_mem _ (List.mem_append_left _ ha)) e
   ·exact hb5 a ha a (List.mem_append_right _ hc) rfl
   ·exact hxv a hc a (List.mem_cons_of_mem _ (List.mem_append_left _ ha)) rfl
theorem Qg.fin {w:World} {lo o:Nat} {b:List UInt8} {vb vi:Value} {D:List VM} (h:Qg w lo o b vb vi D) (n:Int):Ue (.mk n b (D.map VM.d)) lo w.heap.size w (.agg #[.int .i64 n,vb,vi]):=by
 have hn:=h.nd
 rw [List.nodup_cons] at hn
 refine ⟨.mk n b vb vi D,by rw [VM.d_mk],rfl,⟨.mk h.bytes h.row h.its,?_,?_⟩⟩
 ·rw [VM.bks_mk];exact hn.2
 ·rw [VM.bks_mk];exact h.lt
theorem Jz (w:World) (o:Obj):(w.alloc o).heap[w.heap.size]?=some o:=by
 have e:(w.alloc o).heap=w.heap.push o:=rfl
 rw [e]
 simp
theorem Vk {w:World} {o:Nat} {E:TypeId} {a b c:Value} (h:w.heap[o]?=some (.cells #[a,b,c] E (0,0))) (x y z:Value):(((w.setCell ⟨o,0,none⟩ x).setCell ⟨o,1,none⟩ y).setCell ⟨o,2,none⟩ z).heap[o]?=some (.cells #[x,y,z] E (0,0)):=by
 have h1:=Go.heap_setCell_same w o 0 _ _ x h
 have h2:=Go.heap_setCell_same _ o 1 _ _ y h1
 have h3:=Go.heap_setCell_same _ o 2 _ _ z h2
 simpa using h3
theorem Qg.mk0 {w:World} {lo o:Nat} {b:List UInt8} {vb vi:Value} (hb:w.ownsRow lo 5 1 vb b.length (Uy b)) (hi:w.ownsRow lo 29 3 vi 0 []) (d1:vb.ownBlock≠some o) (d2:vi.ownBlock≠some o) (d3:∀g,vi.ownBlock=some g→vb.ownBlock≠some g):Qg w lo o b vb vi []:=by
 refine ⟨hb,hi,by simp,?_⟩
 rw [VM.bkss_nil,List.append_nil,List.nodup_cons,List.nodup_append]
 refine ⟨?_,by cases vb.ownBlock <;> simp,by cases vi.ownBlock <;> simp,fun a ha c hc e=> ?_⟩
 ·intro hm
  simp only [List.mem_append,Option.mem_toList] at hm
  rcases hm with hm|hm
  ·exact d1 hm
  ·exact d2 hm
 ·subst e
  exact d3 a (Option.mem_toList.1 hc) (Option.mem_toList.1 ha)
theorem Mz {w:World} {o:Nat} {E:TypeId} {a b c:Value} (h:w.heap[o]?=some (.cells #[a,b,c] E (0,0))) (z:Value):(w.setCell ⟨o,2,none⟩ z).heap[o]?=some (.cells #[a,b,z] E (0,0)):=by
 have h3:=Go.heap_setCell_same _ o 2 _ _ z h
 simpa using h3
def CpCut (lo:Nat) (W0:World) (nn:Int) (b:List UInt8) (s3:Value) (wx:World):Prop:=
 ∃(o:Nat) (A:Option Addr) (c:Nat) (A':Option Addr) (c':Nat),s3= .pointer (some ⟨o,0,none⟩)∧wx.heap[o]?=some (.cells #[.int .i64 nn, .slice A b.length c, .slice A' 0 c'] 29 (0,0))∧
  Qg wx lo o b (.slice A b.length c) (.slice A' 0 c') []∧lo≤o∧Below W0.heap.size W0 wx
def CpS (x:VM):Prop:=∀(B:Nat) (w:World),x.rd w B→B≤w.heap.size→x.d.size≤4194304→Calls prog 31 #[Qs x] w (Lm (Ue x.d) w)
theorem Xx (x:VM):CpS x:=by
 induction x using VM.induct with
 |h nn b vb vi l ih=>
 intro B w h hB hs
 obtain ⟨i0,hi,hz0,hz1,hz2⟩:=info_parts info_value
 obtain ⟨i1,hj,hy0,hy1,hy2⟩:=info_parts info_u8
 have hb':=h.bytes
 have hi':=h.its
 simp only [VM.vb_mk,VM.b_mk,VM.vi_mk,VM.items_mk] at hb' hi'
 rw [VM.d_mk,Zv.size_mk] at hs
 have hll:=Zv.length_le (l.map VM.d)
 rw [List.length_map] at hll
 have hsm:∀x∈l,x.d.size≤4194304:=fun x hx=> by have:=Zv.size_le_of_mem (List.mem_map_of_mem (f:=VM.d) hx);omega
 have IH:=Fs (Ft ih hsm)
 have HI:=Fs (Ft hb' hi')
 have h1:b.length≤4194304:=by omega
 have h2:l.length≤4194304:=by omega
 obtain ⟨A1,c1,rfl,hc1,hm1, -⟩:=hb'.open_
 obtain ⟨A2,c2,rfl,hc2,hm2,hcell⟩:=hi'.open_
 unfold maxLen at hm1 hm2
 have HC:=Fs hcell
 clear ih h hs hsm hi' hb' hll hcell
 rw [VM.d_mk]
 show Calls prog 31 #[.agg #[.int .i64 nn, .slice A1 b.length c1, .slice A2 l.length c2]] w _
 obtain ⟨W0,hW0⟩:∃W0,W0=(w.alloc (.cells #[.int .i64 nn, .slice A1 b.length c1, .slice A2 l.length c2] 29)).alloc (.cells #[.int .i64 0, .slice none 0 0, .slice none 0 0] 29):=⟨_,rfl⟩
 have hbW:Below w.heap.size w W0:=by rw [hW0];exact ((Fv w.heap.size w).alloc (Fu _) _).alloc (by simp) _
 have hW0z:w.heap.size+2≤W0.heap.size∧W0.heap.size≤w.heap.size+2:=by rw [hW0];simp
 have k0:W0.cell? ⟨w.heap.size,0,none⟩=some (.int .i64 nn):=by rw [hW0];simp [go_sem]
 have k1:W0.cell? ⟨w.heap.size,1,none⟩=some (.slice A1 b.length c1):=by rw [hW0];simp [go_sem]
 have k2:W0.cell? ⟨w.heap.size,2,none⟩=some (.slice A2 l.length c2):=by rw [hW0];simp [go_sem]
 have r0:W0.cell? ⟨w.heap.size+1,0,none⟩=some (.int .i64 0):=by rw [hW0];simp [go_sem]
 have r1:W0.cell? ⟨w.heap.size+1,1,none⟩=some (.slice none 0 0):=by rw [hW0];simp [go_sem]
 have r2:W0.cell? ⟨w.heap.size+1,2,none⟩=some (.slice none 0 0):=by rw [hW0];simp [go_sem]
 have fr:∀i,W0.frozen? ⟨w.heap.size+1,i,none⟩=false:=fun i=> by rw [hW0];simp [go_sem]
 go_enter func31,ntmps31
 go_upto_region 1 with fail
 rw [←hW0]
 clear hW0
 go_cut [3] (fun s3 wx=> CpCut (w.heap.size+2) W0 nn b s3 wx)
 case first=>
  refine wp_region_held_drew (S:=fun w9=> w9.cell? ⟨w.heap.size,0,none⟩=some (.int .i64 nn)∧w9.cell? ⟨w.heap.size,1,none⟩=some (.slice A1 b.length c1)) (by kernel_rfl) ?_ (fun hHeld=> ?_)
  ·exact ⟨k0,k1⟩
  obtain ⟨X0,hX0⟩:∃V,V=W0.drew:=⟨_,rfl⟩
  rw [←hX0] at hHeld ⊢
  have hbq:Below W0.heap.size W0 X0:=by rw [hX0];exact (Fv _ _).drew
  have hbq0:Below W0.heap.size W0 X0:=hbq
  clear hX0
  refine Za 0 (some 5) hHeld _ ?_;try go_frame
  refine Za 1 (some 6) hHeld _ ?_;try go_frame
  refine Za 3 (some 8) hHeld _ ?_;try go_frame
  refine Za 4 (some 9) hHeld _ ?_;try go_frame
  refine Rd 2 7 (fun K hK=> ?_) (fun K hK=> ?_)
  ·(try go_simp)
   obtain ⟨X1,hY⟩:∃V,V=X0.alloc (.cells #[] 5):=⟨_,rfl⟩
   rw [←hY]
   have hx:Below X0.heap.size X0 X1:=by rw [hY];exact (Fv _ _).alloc (Fu _) _
   have hbqE:=hbq.size
   have hbq:=hbq.trans (hx.mono hbq.size)
   have he:X1.ownsRow (w.heap.size+2) 5 1 (.slice (some ⟨X0.heap.size,0,none⟩) 0 0) 0 []:=by rw [hY];exact Ji rfl (by omega)
   clear hY hbqE
   refine hK.out _ _ ?_ (fun hHeld=> ?_)
   ·(try dsimp only);exact ⟨Zc k0 hbq (by omega),Zc k1 hbq (by omega)⟩
   clear hK K
   try go_frame
   refine Rd 5 7 (fun K hK=> ?_) (fun K hK=> ?_)
   ·refine Je _ (.tmp 7) (.tmp 9) 22 rfl (w.heap.size+2) 5 i1 (.int .u8 0) 1 1 underlying22 hj hy0 hy1 hy2 rfl (by decide) _ 0 [] rfl (by exact he) B b.length _ (Uy b) rfl (by exact Sl.below HI.out.1 ((hbW.trans (hbq.mono (by omega))).mono hB)) (Xm _) (by omega) (by unfold maxLen;omega) (by have:=hbq.size;omega) ?_
    intro v1 X2 hv hg hvv
    simp only [Nat.zero_add,List.nil_append] at hv
    obtain ⟨Av,cv,rfl⟩:=Zq hv
    have hvv:Value.ownBlock (.slice Av b.length cv)=some (X0.heap.size)∨Value.ownBlock (.slice Av b.length cv)=some X1.heap.size:=hvv
    have hg:X1.grownBy X2 (some (X0.heap.size)):=hg
    have hbq:=hbq.grown hg hbq.size (by intro k hk;have:=(he.lt (X0.heap.size) rfl).1;have:=Fz hk;omega)
    clear he hg hvv
    refine hK.out _ _ ?_ (fun hHeld=> ?_)
    ·(try dsimp only);exact ⟨Zc k0 hbq (by omega),Zc k1 hbq (by omega)⟩
    clear hK K
    try go_frame
    refine Za 6 (some 11) hHeld _ ?_;try go_frame
    refine Zh 7 (fun K hK=> ?_)
    (try go_simp)
    obtain ⟨X3,hY⟩:∃V,V=X2.alloc (.cells #[.int .i64 0, .slice none 0 0, .slice none 0 0] 29):=⟨_,rfl⟩
    rw [←hY]
    have hx:Below X2.heap.size X2 X3:=by rw [hY];exact (Fv _ _).alloc (Fu _) _
    have hbqO:=hbq.size
    have dA:Value.ownBlock (.slice Av b.length cv)≠some X2.heap.size:=fun e=> by have:=(hv.lt _ e).2;omega
    have hbq:=hbq.trans (hx.mono hbq.size)
    have hv:=Qb hv hx (Fu _)
    have qh:X3.heap[X2.heap.size]?=some (.cells #[.int .i64 0, .slice none 0 0, .slice none 0 0] 29 (0,0)):=by rw [hY];exact Jz _ _
    have hoX:X2.heap.size < X3.heap.size:=by rw [hY];simp
    have hO:W0.heap.size≤X2.heap.size:=hbqO
    clear hY hbqO
    refine hK.out _ _ ?_ (fun hHeld=> ?_)
    ·(try dsimp only);exact ⟨Zc k0 hbq (by omega),Zc k1 hbq (by omega)⟩
    clear hK K
    try go_frame
    refine Zh 8 (fun K hK=> ?_)
    have c0:=cell_of_row _ _ 0 _ _ (0,0) qh
    have c1:=cell_of_row _ _ 1 _ _ (0,0) qh
    have c2:=cell_of_row _ _ 2 _ _ (0,0) qh
    simp at c0 c1 c2
    have f0:=frozen_of_row _ _ 0 _ _ qh
    have f1:=frozen_of_row _ _ 1 _ _ qh
    have f2:=frozen_of_row _ _ 2 _ _ qh
    have gr:=Fs ((((Qg.mk0 (o:=X2.heap.size) hv (World.ownsRow_nil _ _ _ _) dA (by simp [Value.ownBlock]) (by simp [Value.ownBlock])).store (i:=0) (.int .i64 nn)).store (i:=1) (.slice Av b.length cv)).store (i:=2) (.slice none 0 0))
    have st:=Fs (Vk qh (.int .i64 nn) (.slice Av b.length cv) (.slice none 0 0))
    have bl:=Fs (((hbq.setCell (p:=⟨X2.heap.size,0,none⟩) hO (.int .i64 nn)).setCell (p:=⟨X2.heap.size,1,none⟩) hO (.slice Av b.length cv)).setCell (p:=⟨X2.heap.size,2,none⟩) hO (.slice none 0 0))
    go_simp
    clear c0 c1 c2 f0 f1 f2
    refine hK.out _ _ ?_ (fun hHeld=> ?_)
    ·(try dsimp only);exact ⟨Zc k0 bl.out (by omega),Zc k1 bl.out (by omega)⟩
    clear hK K
    try go_frame
    refine wpAnyH_done (by kernel_rfl) ?_ _
    go_wp2_with fail
    go_meet
    exact ⟨_,_,_,_,_,rfl,st.out,gr.out,by omega,bl.out⟩
   ·(try go_simp)
    obtain ⟨X2,hY⟩:∃V,V=X1.alloc (.cells #[.int .i64 0, .slice none 0 0, .slice none 0 0] 29):=⟨_,rfl⟩
    rw [←hY]
    have hx:Below X1.heap.size X1 X2:=by rw [hY];exact (Fv _ _).alloc (Fu _) _
    have hbqO:=hbq.size
    have dE:X0.heap.size≠X1.heap.size:=by have:=(he.lt (X0.heap.size) rfl).2;omega
    have hbq:=hbq.trans (hx.mono hbq.size)
    have he:=Qb he hx (Fu _)
    have qh:X2.heap[X1.heap.size]?=some (.cells #[.int .i64 0, .slice none 0 0, .slice none 0 0] 29 (0,0)):=by rw [hY];exact Jz _ _
    have hoX:X1.heap.size < X2.heap.size:=by rw [hY];simp
    have hO:W0.heap.size≤X1.heap.size:=hbqO
    clear hY hbqO
    refine hK.out _ _ ?_ (fun hHeld=> ?_)
    ·(try dsimp only);exact ⟨Zc k0 hbq (by omega),Zc k1 hbq (by omega)⟩
    clear hK K
    try go_frame
    refine Zh 5 (fun K hK=> ?_)
    refine Je _ (.tmp 7) (.tmp 9) 22 rfl (w.heap.size+2) 5 i1 (.int .u8 0) 1 1 underlying22 hj hy0 hy1 hy2 rfl (by decide) _ 0 [] rfl (by exact he) B b.length _ (Uy b) rfl (by exact Sl.below HI.out.1 ((hbW.trans (hbq.mono (by omega))).mono hB)) (Xm _) (by omega) (by unfold maxLen;omega) (by have:=hbq.size;omega) ?_
    intro v1 X3 hv hg hvv
    simp only [Nat.zero_add,List.nil_append] at hv
    obtain ⟨Av,cv,rfl⟩:=Zq hv
    have hvv:Value.ownBlock (.slice Av b.length cv)=some (X0.heap.size)∨Value.ownBlock (.slice Av b.length cv)=some X2.heap.size:=hvv
    have hg:X2.grownBy X3 (some (X0.heap.size)):=hg
    have dA:Value.ownBlock (.slice Av b.length cv)≠some (X1.heap.size):=fun e=> by
     rcases hvv with h|h
     ·rw [h] at e;exact dE (Fz e)
     ·rw [h] at e;have:=Fz e;omega
    have qh:=(hg.block _ hoX (fun e=> dE (Fz e).symm)).trans qh
    have hoX:X1.heap.size < X3.heap.size:=Ea hoX hg.size
    have hbq:=hbq.grown hg hbq.size (by intro k hk;have:=(he.lt (X0.heap.size) rfl).1;have:=Fz hk;omega)
    clear he hg hvv
    refine hK.out _ _ ?_ (fun hHeld=> ?_)
    ·(try dsimp only);exact ⟨Zc k0 hbq (by omega),Zc k1 hbq (by omega)⟩
    clear hK K
    try go_frame
    refine Za 6 (some 11) hHeld _ ?_;try go_frame
    refine Zh 8 (fun K hK=> ?_)
    have c0:=cell_of_row _ _ 0 _ _ (0,0) qh
    have c1:=cell_of_row _ _ 1 _ _ (0,0) qh
    have c2:=cell_of_row _ _ 2 _ _ (0,0) qh
    simp at c0 c1 c2
    have f0:=frozen_of_row _ _ 0 _ _ qh
    have f1:=frozen_of_row _ _ 1 _ _ qh
    have f2:=frozen_of_row _ _ 2 _ _ qh
    have gr:=Fs ((((Qg.mk0 (o:=X1.heap.size) hv (World.ownsRow_nil _ _ _ _) dA (by simp [Value.ownBlock]) (by simp [Value.ownBlock])).store (i:=0) (.int .i64 nn)).store (i:=1) (.slice Av b.length cv)).store (i:=2) (.slice none 0 0))
    have st:=Fs (Vk qh (.int .i64 nn) (.slice Av b.length cv) (.slice none 0 0))
    have bl:=Fs (((hbq.setCell (p:=⟨X1.heap.size,0,none⟩) hO (.int .i64 nn)).setCell (p:=⟨X1.heap.size,1,none⟩) hO (.slice Av b.length cv)).setCell (p:=⟨X1.heap.size,2,none⟩) hO (.slice none 0 0))
    go_simp
    clear c0 c1 c2 f0 f1 f2
    refine hK.out _ _ ?_ (fun hHeld=> ?_)
    ·(try dsimp only);exact ⟨Zc k0 bl.out (by omega),Zc k1 bl.out (by omega)⟩
    clear hK K
    try go_frame
    refine wpAnyH_done (by kernel_rfl) ?_ _
    go_wp2_with fail
    go_meet
    exact ⟨_,_,_,_,_,rfl,st.out,gr.out,by omega,bl.out⟩
  ·(try go_simp)
   obtain ⟨X1,hY⟩:∃V,V=X0.alloc (.cells #[.int .i64 0, .slice none 0 0, .slice none 0 0] 29):=⟨_,rfl⟩
   rw [←hY]
   have hx:Below X0.heap.size X0 X1:=by rw [hY];exact (Fv _ _).alloc (Fu _) _
   have hbqO:=hbq.size
   have hbq:=hbq.trans (hx.mono hbq.size)
   have qh:X1.heap[X0.heap.size]?=some (.cells #[.int .i64 0, .slice none 0 0, .slice none 0 0] 29 (0,0)):=by rw [hY];exact Jz _ _
   have hoX:X0.heap.size < X1.heap.size:=by rw [hY];simp
   have hO:W0.heap.size≤X0.heap.size:=hbqO
   clear hY hbqO
   refine hK.out _ _ ?_ (fun hHeld=> ?_)
   ·(try dsimp only);exact ⟨Zc k0 hbq (by omega),Zc k1 hbq (by omega)⟩
   clear hK K
   try go_frame
   refine Zh 2 (fun K hK=> ?_)
   (try go_simp)
   obtain ⟨X2,hY⟩:∃V,V=X1.alloc (.cells #[] 5):=⟨_,rfl⟩
   rw [←hY]
   have hx:Below X1.heap.size X1 X2:=by rw [hY];exact (Fv _ _).alloc (Fu _) _
   have dE:X1.heap.size≠X0.heap.size:=by omega
   have hbqE:=hbq.size
   have hbq:=hbq.trans (hx.mono hbq.size)
   have qh:=(hx.block _ hoX).trans qh
   have hoX:X0.heap.size < X2.heap.size:=Ea hoX hx.size
   have he:X2.ownsRow (w.heap.size+2) 5 1 (.slice (some ⟨X1.heap.size,0,none⟩) 0 0) 0 []:=by rw [hY];exact Ji rfl (by omega)
   clear hY hbqE
   refine hK.out _ _ ?_ (fun hHeld=> ?_)
   ·(try dsimp only);exact ⟨Zc k0 hbq (by omega),Zc k1 hbq (by omega)⟩
   clear hK K
   try go_frame
   refine Zh 5 (fun K hK=> ?_)
   refine Je _ (.tmp 7) (.tmp 9) 22 rfl (w.heap.size+2) 5 i1 (.int .u8 0) 1 1 underlying22 hj hy0 hy1 hy2 rfl (by decide) _ 0 [] rfl (by exact he) B b.length _ (Uy b) rfl (by exact Sl.below HI.out.1 ((hbW.trans (hbq.mono (by omega))).mono hB)) (Xm _) (by omega) (by unfold maxLen;omega) (by have:=hbq.size;omega) ?_
   intro v1 X3 hv hg hvv
   simp only [Nat.zero_add,List.nil_append] at hv
   obtain ⟨Av,cv,rfl⟩:=Zq hv
   have hvv:Value.ownBlock (.slice Av b.length cv)=some (X1.heap.size)∨Value.ownBlock (.slice Av b.length cv)=some X2.heap.size:=hvv
   have hg:X2.grownBy X3 (some (X1.heap.size)):=hg
   have dA:Value.ownBlock (.slice Av b.length cv)≠some (X0.heap.size):=fun e=> by
    rcases hvv with h|h
    ·rw [h] at e;exact dE (Fz e)
    ·rw [h] at e;have:=Fz e;omega
   have qh:=(hg.block _ hoX (fun e=> dE (Fz e).symm)).trans qh
   have hoX:X0.heap.size < X3.heap.size:=Ea hoX hg.size
   have hbq:=hbq.grown hg hbq.size (by intro k hk;have:=(he.lt (X1.heap.size) rfl).1;have:=Fz hk;omega)
   clear he hg hvv
   refine hK.out _ _ ?_ (fun hHeld=> ?_)
   ·(try dsimp only);exact ⟨Zc k0 hbq (by omega),Zc k1 hbq (by omega)⟩
   clear hK K
   try go_frame
   refine Za 6 (some 11) hHeld _ ?_;try go_frame
   refine Zh 8 (fun K hK=> ?_)
   have c0:=cell_of_row _ _ 0 _ _ (0,0) qh
   have c1:=cell_of_row _ _ 1 _ _ (0,0) qh
   have c2:=cell_of_row _ _ 2 _ _ (0,0) qh
   simp at c0 c1 c2
   have f0:=frozen_of_row _ _ 0 _ _ qh
   have f1:=frozen_of_row _ _ 1 _ _ qh
   have f2:=frozen_of_row _ _ 2 _ _ qh
   have gr:=Fs ((((Qg.mk0 (o:=X0.heap.size) hv (World.ownsRow_nil _ _ _ _) dA (by simp [Value.ownBlock]) (by simp [Value.ownBlock])).store (i:=0) (.int .i64 nn)).store (i:=1) (.slice Av b.length cv)).store (i:=2) (.slice none 0 0))
   have st:=Fs (Vk qh (.int .i64 nn) (.slice Av b.length cv) (.slice none 0 0))
   have bl:=Fs (((hbq.setCell (p:=⟨X0.heap.size,0,none⟩) hO (.int .i64 nn)).setCell (p:=⟨X0.heap.size,1,none⟩) hO (.slice Av b.length cv)).setCell (p:=⟨X0.heap.size,2,none⟩) hO (.slice none 0 0))
   go_simp
   clear c0 c1 c2 f0 f1 f2
   refine hK.out _ _ ?_ (fun hHeld=> ?_)
   ·(try dsimp only);exact ⟨Zc k0 bl.out (by omega),Zc k1 bl.out (by omega)⟩
   clear hK K
   try go_frame
   refine wpAnyH_done (by kernel_rfl) ?_ _
   go_wp2_with fail
   go_meet
   exact ⟨_,_,_,_,_,rfl,st.out,gr.out,by omega,bl.out⟩
 obtain ⟨o,A,c,A',c',rfl,st,gr,ho,bl⟩:=hcut
 have hWo:W0.heap.size≤o:=by omega
 have hlo:o < wc.heap.size:=by
  have:=(Array.getElem?_eq_some_iff.1 st).1
  exact this
 have h00:∃(D:List VM) (Ai:Option Addr) (ci:Nat),Hid (D.map VM.d=(l.take 0).map VM.d)∧D.length=0∧wc.heap[o]?=some (.cells #[.int .i64 nn, .slice A b.length c, .slice Ai 0 ci] 29 (0,0))∧Qg wc (w.heap.size+2) o b (.slice A b.length c) (.slice Ai 0 ci) D∧o < wc.heap.size∧Below W0.heap.size W0 wc:=
  ⟨[],A',c',Fs rfl,rfl,st,gr,hlo,bl⟩
 clear st gr bl hlo
 go_wp2
 go_loopw [4] (fun i wr=> ∃j:Nat,j≤l.length∧i= .int .i64 j∧∃(D:List VM) (Ai:Option Addr) (ci:Nat),Hid (D.map VM.d=(l.take j).map VM.d)∧D.length=j∧wr.heap[o]?=some (.cells #[.int .i64 nn, .slice A b.length c, .slice Ai j ci] 29 (0,0))∧Qg wr (w.heap.size+2) o b (.slice A b.length c) (.slice Ai j ci) D∧o < wr.heap.size∧Below W0.heap.size W0 wr) (fun i _=> l.length - (intOf i).toNat)
 case atStart=> exact ⟨0,Eb _,rfl,h00⟩
 case round=>
  clear h00
  obtain ⟨j,hj,rfl,D,Ai,ci,hD,hDl,qh,gr,hol,bb⟩:=hrel
  have hWr:=bb.size
  have m2:=Zc k2 bb (by omega)
  by_cases hlt:j < l.length
  ·obtain ⟨bi,off,rfl,hbi,e0,e1,e2⟩:=HC.out j hlt
   have hrd:=HI.out.2.2 l[j] (Fw hlt)
   have bw:=(hbW.trans (bb.mono (by omega))).mono hB
   have d0:=Zc e0 bw hbi
   have d1:=Zc e1 bw hbi
   have d2:=Zc e2 bw hbi
   have D0:=Zc e0 (hbW.mono hB) hbi
   have D1:=Zc e1 (hbW.mono hB) hbi
   have D2:=Zc e2 (hbW.mono hB) hbi
   clear e0 e1 e2 bw
   have hSb:=Ft m2 (Ft d0 (Ft d1 d2))
   go_wp2_with fail
   refine wp_region_held_drew (S:=fun w9=> w9.cell? ⟨w.heap.size,2,none⟩=some (.slice (some ⟨bi,off,none⟩) l.length c2)∧w9.cell? ⟨bi,off+j*3,none⟩=some (.int .i64 l[j].n)∧w9.cell? ⟨bi,off+j*3+1,none⟩=some l[j].vb∧w9.cell? ⟨bi,off+j*3+2,none⟩=some l[j].vi) (by kernel_rfl) ?_ (fun hHeld=> ?_)
   ·exact hSb
   obtain ⟨X,hX⟩:∃V,V=wr.drew:=⟨_,rfl⟩
   rw [←hX] at hHeld ⊢
   have bX:Below wr.heap.size wr X:=by rw [hX];exact (Fv _ _).drew
   clear hX
   have gX:=Fs (gr.below bX)
   have qX:=(bX.block _ hol).trans qh
   have eX:=Fs (bb.trans (bX.mono hWr))
   clear gr
   refine Za 0 (some 19) hHeld _ ?_;try go_frame
   refine Za 2 (some 21) hHeld _ ?_;try go_frame
   refine Za 3 (some 22) hHeld _ ?_;try go_frame
   refine Za 4 (some 23) hHeld _ ?_;try go_frame
   refine Za 5 (some 24) hHeld _ ?_;try go_frame
   refine Za 6 (some 25) hHeld _ ?_;try go_frame
   refine Rd 1 7 (fun K hK=> ?_) (fun K hK=> ?_)
   ·have co2:=cell_of_row _ _ 2 _ _ (0,0) qX
    simp at co2
    go_simp
    clear co2
    refine hK.out _ _ ?_ (fun hHeld=> ?_)
    ·exact hHeld
    clear hK K
    try go_frame
    refine Zh 7 (fun K hK=> ?_)
    go_simp
    refine (IH.out.1 l[j] (Fw hlt) B X (hrd.bel ((hbW.trans (eX.out.mono (by omega))).mono hB)) (by have:=eX.out.size;omega) (IH.out.2 _ (Fw hlt))).mono ?_
    rintro e w2 ⟨_,rfl,⟨y,hy,rfl,hoy⟩,hb2⟩
    obtain ⟨yn,yb,yvb,yvi,yl⟩:=y
    obtain ⟨B1,f1,ev1⟩:=Zq hoy.own.bytes
    obtain ⟨B2,f2,ev2⟩:=Zq hoy.own.row
    simp only [VM.vb_mk,VM.b_mk,VM.vi_mk,VM.items_mk] at ev1 ev2
    subst ev1 ev2
    unfold Qs
    simp only [VM.n_mk,VM.vb_mk,VM.vi_mk]
    have q2:=(hb2.block _ (Ea hol bX.size)).trans qX
    have e2:=Fs (eX.out.trans (hb2.mono eX.out.size))
    have g2:=Fs (gX.out.below hb2)
    have hoy:=Fs (Ft hoy (Ft hy hb2))
    clear hy hb2
    (try go_wp2_with fail)
    refine hK.out _ _ ?_ (fun hHeld=> ?_)
    ·exact ⟨Zc k2 e2.out (by omega),Zc D0 e2.out (by omega),Zc D1 e2.out (by omega),Zc D2 e2.out (by omega)⟩
    clear hK K
    try go_frame
    refine Zh 8 (fun K hK=> ?_)
    (try go_simp)
    obtain ⟨w3,hw3⟩:∃V,V=w2.alloc (.cells #[.int .i64 yn, .slice B1 yb.length f1, .slice B2 yl.length f2] 29):=⟨_,rfl⟩
    rw [←hw3]
    have hb3:Below w2.heap.size w2 w3:=by rw [hw3];exact (Fv _ _).alloc (Fu _) _
    have hs3:Sl w3 (w2.heap.size+1) 3 (.slice (some ⟨w2.heap.size,0,none⟩) 1 1) 1 (Ze (.mk yn yb (.slice B1 yb.length f1) (.slice B2 yl.length f2) yl)):=by rw [hw3];exact Tk (x:= .mk yn yb (.slice B1 yb.length f1) (.slice B2 yl.length f2) yl) rfl
    have hol2:o < w2.heap.size:=Ea hol (Nat.le_trans bX.size hoy.out.2.2.size)
    have q3:=(hb3.block _ hol2).trans q2
    have e3:=Fs (e2.out.trans (hb3.mono e2.out.size))
    have g3:=Fs (g2.out.below hb3)
    clear hw3
    refine hK.out _ _ ?_ (fun hHeld=> ?_)
    ·exact ⟨Zc k2 e3.out (by omega),Zc D0 e3.out (by omega),Zc D1 e3.out (by omega),Zc D2 e3.out (by omega)⟩
    clear hK K
    try go_frame
    refine Zh 9 (fun K hK=> ?_)
    refine Je _ (.tmp 20) (.tmp 27) 27 rfl (w.heap.size+2) 29 i0 (.agg #[.int .i64 0, .slice none 0 0, .slice none 0 0]) 3 56 underlying27 hi hz0 hz1 hz2 rfl (by decide) _ j (D.flatMap Ze) rfl (by have:=g3.out.row;rw [hDl] at this;exact this) (w2.heap.size+1) 1 _ (Ze (.mk yn yb (.slice B1 yb.length f1) (.slice B2 yl.length f2) yl)) rfl (by exact hs3) (Yl (x:= .mk yn yb (.slice B1 yb.length f1) (.slice B2 yl.length f2) yl) rfl rfl) (by omega) (by unfold maxLen;omega) (by have:=e3.out.size;omega) ?_
    intro v9 w4 hown4 hg4 hv4
    obtain ⟨A9,c9,rfl⟩:=Zq hown4
    have hg4:w3.grownBy w4 (Value.slice Ai j ci).ownBlock:=hg4
    have hv4:(Value.slice A9 (j+1) c9).ownBlock=(Value.slice Ai j ci).ownBlock∨(Value.slice A9 (j+1) c9).ownBlock=some w3.heap.size:=hv4
    have hne:some o≠(Value.slice Ai j ci).ownBlock:=fun e=> by
     have hn:=g2.out.nd
     rw [List.nodup_cons] at hn
     exact hn.1 (by rw [←e];simp)
    have q4:=(hg4.block _ (Ea hol2 hb3.size) hne).trans q3
    have g4:Qg w4 (w.heap.size+2) o b (.slice A b.length c) (.slice A9 (j+1) c9) (D++ [.mk yn yb (.slice B1 yb.length f1) (.slice B2 yl.length f2) yl]):=by
     refine Qg.snoc (w:=X) (w2:=w2) (wa:=w3) (vi:= .slice Ai j ci) g2.out hoy.out.1 ?_ hoy.out.2.2.size (by have:=eX.out.size;omega) hb3 (by rw [hDl];exact hown4) hg4 hv4
     intro g hg
     rw [List.mem_cons] at hg
     rcases hg with rfl|hg
     ·exact Ea hol bX.size
     ·exact (gX.out.lt g hg).2
    have e4:=e3.out.grown hg4 e3.out.size (by
     intro k hk
     have:=(g3.out.row.lt k hk).1
     omega)
    have z4:o < w4.heap.size:=Ea hol2 (Nat.le_trans hb3.size hg4.size)
    have G4:=Fs (Ft g4 e4)
    clear hown4 hg4 hv4 hne g4 e4 hs3
    refine hK.out _ _ ?_ (fun hHeld=> ?_)
    ·exact ⟨Zc k2 G4.out.2 (by omega),Zc D0 G4.out.2 (by omega),Zc D1 G4.out.2 (by omega),Zc D2 G4.out.2 (by omega)⟩
    clear hK K
    try go_frame
    refine Za 10 (some 29) hHeld _ ?_;try go_frame
    refine Zh 11 (fun K hK=> ?_)
    have co2:=cell_of_row _ _ 2 _ _ (0,0) q4
    simp at co2
    have cof:=frozen_of_row _ _ 2 _ _ q4
    have st:=Fs (Mz q4 (.slice A9 (j+1) c9))
    have G5:=Fs (Ft (G4.out.1.store (i:=2) (.slice A9 (j+1) c9)) (Ft (G4.out.2.setCell (p:=⟨o,2,none⟩) hWo (.slice A9 (j+1) c9)) (show o < (w4.setCell ⟨o,2,none⟩ (.slice A9 (j+1) c9)).heap.size by simp;exact z4)))
    go_simp
    clear co2 cof
    refine hK.out _ _ ?_ (fun hHeld=> ?_)
    ·exact ⟨Zc k2 G5.out.2.1 (by omega),Zc D0 G5.out.2.1 (by omega),Zc D1 G5.out.2.1 (by omega),Zc D2 G5.out.2.1 (by omega)⟩
    clear hK K
    try go_frame
    refine wpAnyH_done (by kernel_rfl) ?_ _
    have HD:=Fs (show (D++ [(VM.mk yn yb (.slice B1 yb.length f1) (.slice B2 yl.length f2) yl)]).map VM.d=(l.take (j+1)).map VM.d by
     rw [List.map_append,hD.out,List.take_succ_eq_append_getElem hlt,List.map_append];simp only [List.map_cons,List.map_nil];rw [hoy.out.2.1])
    have HDl:(D++ [(VM.mk yn yb (.slice B1 yb.length f1) (.slice B2 yl.length f2) yl)]).length=j+1:=by rw [List.length_append,hDl];rfl
    clear q4 q3 q2 qX m2 d0 d1 d2 hSb hHeld qh bb hrd
    go_wp2
    go_roundw
    case rel=> exact ⟨j+1,by omega,by go_num,_,_,_,HD,HDl,st.out,G5.out.1,G5.out.2.2,G5.out.2.1⟩
    case measure=> simp [intOf];omega
   ·go_simp
    refine (IH.out.1 l[j] (Fw hlt) B X (hrd.bel ((hbW.trans (eX.out.mono (by omega))).mono hB)) (by have:=eX.out.size;omega) (IH.out.2 _ (Fw hlt))).mono ?_
    rintro e w2 ⟨_,rfl,⟨y,hy,rfl,hoy⟩,hb2⟩
    obtain ⟨yn,yb,yvb,yvi,yl⟩:=y
    obtain ⟨B1,f1,ev1⟩:=Zq hoy.own.bytes
    obtain ⟨B2,f2,ev2⟩:=Zq hoy.own.row
    simp only [VM.vb_mk,VM.b_mk,VM.vi_mk,VM.items_mk] at ev1 ev2
    subst ev1 ev2
    unfold Qs
    simp only [VM.n_mk,VM.vb_mk,VM.vi_mk]
    have q2:=(hb2.block _ (Ea hol bX.size)).trans qX
    have e2:=Fs (eX.out.trans (hb2.mono eX.out.size))
    have g2:=Fs (gX.out.below hb2)
    have hoy:=Fs (Ft hoy (Ft hy hb2))
    clear hy hb2
    (try go_wp2_with fail)
    refine hK.out _ _ ?_ (fun hHeld=> ?_)
    ·exact ⟨Zc k2 e2.out (by omega),Zc D0 e2.out (by omega),Zc D1 e2.out (by omega),Zc D2 e2.out (by omega)⟩
    clear hK K
    try go_frame
    refine Rd 1 8 (fun K hK=> ?_) (fun K hK=> ?_)
    ·have co2:=cell_of_row _ _ 2 _ _ (0,0) q2
     simp at co2
     go_simp
     clear co2
     refine hK.out _ _ ?_ (fun hHeld=> ?_)
     ·exact hHeld
     clear hK K
     try go_frame
     refine Zh 8 (fun K hK=> ?_)
     (try go_simp)
     obtain ⟨w3,hw3⟩:∃V,V=w2.alloc (.cells #[.int .i64 yn, .slice B1 yb.length f1, .slice B2 yl.length f2] 29):=⟨_,rfl⟩
     rw [←hw3]
     have hb3:Below w2.heap.size w2 w3:=by rw [hw3];exact (Fv _ _).alloc (Fu _) _
     have hs3:Sl w3 (w2.heap.size+1) 3 (.slice (some ⟨w2.heap.size,0,none⟩) 1 1) 1 (Ze (.mk yn yb (.slice B1 yb.length f1) (.slice B2 yl.length f2) yl)):=by rw [hw3];exact Tk (x:= .mk yn yb (.slice B1 yb.length f1) (.slice B2 yl.length f2) yl) rfl
     have hol2:o < w2.heap.size:=Ea hol (Nat.le_trans bX.size hoy.out.2.2.size)
     have q3:=(hb3.block _ hol2).trans q2
     have e3:=Fs (e2.out.trans (hb3.mono e2.out.size))
     have g3:=Fs (g2.out.below hb3)
     clear hw3
     refine hK.out _ _ ?_ (fun hHeld=> ?_)
     ·exact ⟨Zc k2 e3.out (by omega),Zc D0 e3.out (by omega),Zc D1 e3.out (by omega),Zc D2 e3.out (by omega)⟩
     clear hK K
     try go_frame
     refine Zh 9 (fun K hK=> ?_)
     refine Je _ (.tmp 20) (.tmp 27) 27 rfl (w.heap.size+2) 29 i0 (.agg #[.int .i64 0, .slice none 0 0, .slice none 0 0]) 3 56 underlying27 hi hz0 hz1 hz2 rfl (by decide) _ j (D.flatMap Ze) rfl (by have:=g3.out.row;rw [hDl] at this;exact this) (w2.heap.size+1) 1 _ (Ze (.mk yn yb (.slice B1 yb.length f1) (.slice B2 yl.length f2) yl)) rfl (by exact hs3) (Yl (x:= .mk yn yb (.slice B1 yb.length f1) (.slice B2 yl.length f2) yl) rfl rfl) (by omega) (by unfold maxLen;omega) (by have:=e3.out.size;omega) ?_
     intro v9 w4 hown4 hg4 hv4
     obtain ⟨A9,c9,rfl⟩:=Zq hown4
     have hg4:w3.grownBy w4 (Value.slice Ai j ci).ownBlock:=hg4
     have hv4:(Value.slice A9 (j+1) c9).ownBlock=(Value.slice Ai j ci).ownBlock∨(Value.slice A9 (j+1) c9).ownBlock=some w3.heap.size:=hv4
     have hne:some o≠(Value.slice Ai j ci).ownBlock:=fun e=> by
      have hn:=g2.out.nd
      rw [List.nodup_cons] at hn
      exact hn.1 (by rw [←e];simp)
     have q4:=(hg4.block _ (Ea hol2 hb3.size) hne).trans q3
     have g4:Qg w4 (w.heap.size+2) o b (.slice A b.length c) (.slice A9 (j+1) c9) (D++ [.mk yn yb (.slice B1 yb.length f1) (.slice B2 yl.length f2) yl]):=by
      refine Qg.snoc (w:=X) (w2:=w2) (wa:=w3) (vi:= .slice Ai j ci) g2.out hoy.out.1 ?_ hoy.out.2.2.size (by have:=eX.out.size;omega) hb3 (by rw [hDl];exact hown4) hg4 hv4
      intro g hg
      rw [List.mem_cons] at hg
      rcases hg with rfl|hg
      ·exact Ea hol bX.size
      ·exact (gX.out.lt g hg).2
     have e4:=e3.out.grown hg4 e3.out.size (by
      intro k hk
      have:=(g3.out.row.lt k hk).1
      omega)
     have z4:o < w4.heap.size:=Ea hol2 (Nat.le_trans hb3.size hg4.size)
     have G4:=Fs (Ft g4 e4)
     clear hown4 hg4 hv4 hne g4 e4 hs3
     refine hK.out _ _ ?_ (fun hHeld=> ?_)
     ·exact ⟨Zc k2 G4.out.2 (by omega),Zc D0 G4.out.2 (by omega),Zc D1 G4.out.2 (by omega),Zc D2 G4.out.2 (by omega)⟩
     clear hK K
     try go_frame
     refine Za 10 (some 29) hHeld _ ?_;try go_frame
     refine Zh 11 (fun K hK=> ?_)
     have co2:=cell_of_row _ _ 2 _ _ (0,0) q4
     simp at co2
     have cof:=frozen_of_row _ _ 2 _ _ q4
     have st:=Fs (Mz q4 (.slice A9 (j+1) c9))
     have G5:=Fs (Ft (G4.out.1.store (i:=2) (.slice A9 (j+1) c9)) (Ft (G4.out.2.setCell (p:=⟨o,2,none⟩) hWo (.slice A9 (j+1) c9)) (show o < (w4.setCell ⟨o,2,none⟩ (.slice A9 (j+1) c9)).heap.size by simp;exact z4)))
     go_simp
     clear co2 cof
     refine hK.out _ _ ?_ (fun hHeld=> ?_)
     ·exact ⟨Zc k2 G5.out.2.1 (by omega),Zc D0 G5.out.2.1 (by omega),Zc D1 G5.out.2.1 (by omega),Zc D2 G5.out.2.1 (by omega)⟩
     clear hK K
     try go_frame
     refine wpAnyH_done (by kernel_rfl) ?_ _
     have HD:=Fs (show (D++ [(VM.mk yn yb (.slice B1 yb.length f1) (.slice B2 yl.length f2) yl)]).map VM.d=(l.take (j+1)).map VM.d by
      rw [List.map_append,hD.out,List.take_succ_eq_append_getElem hlt,List.map_append];simp only [List.map_cons,List.map_nil];rw [hoy.out.2.1])
     have HDl:(D++ [(VM.mk yn yb (.slice B1 yb.length f1) (.slice B2 yl.length f2) yl)]).length=j+1:=by rw [List.length_append,hDl];rfl
     clear q4 q3 q2 qX m2 d0 d1 d2 hSb hHeld qh bb hrd
     go_wp2
     go_roundw
     case rel=> exact ⟨j+1,by omega,by go_num,_,_,_,HD,HDl,st.out,G5.out.1,G5.out.2.2,G5.out.2.1⟩
     case measure=> simp [intOf];omega
    ·(try go_simp)
     obtain ⟨w3,hw3⟩:∃V,V=w2.alloc (.cells #[.int .i64 yn, .slice B1 yb.length f1, .slice B2 yl.length f2] 29):=⟨_,rfl⟩
     rw [←hw3]
     have hb3:Below w2.heap.size w2 w3:=by rw [hw3];exact (Fv _ _).alloc (Fu _) _
     have hs3:Sl w3 (w2.heap.size+1) 3 (.slice (some ⟨w2.heap.size,0,none⟩) 1 1) 1 (Ze (.mk yn yb (.slice B1 yb.length f1) (.slice B2 yl.length f2) yl)):=by rw [hw3];exact Tk (x:= .mk yn yb (.slice B1 yb.length f1) (.slice B2 yl.length f2) yl) rfl
     have hol2:o < w2.heap.size:=Ea hol (Nat.le_trans bX.size hoy.out.2.2.size)
     have q3:=(hb3.block _ hol2).trans q2
     have e3:=Fs (e2.out.trans (hb3.mono e2.out.size))
     have g3:=Fs (g2.out.below hb3)
     clear hw3
     refine hK.out _ _ ?_ (fun hHeld=> ?_)
     ·exact ⟨Zc k2 e3.out (by omega),Zc D0 e3.out (by omega),Zc D1 e3.out (by omega),Zc D2 e3.out (by omega)⟩
     clear hK K
     try go_frame
     refine Zh 1 (fun K hK=> ?_)
     have co2:=cell_of_row _ _ 2 _ _ (0,0) q3
     simp at co2
     go_simp
     clear co2
     refine hK.out _ _ ?_ (fun hHeld=> ?_)
     ·exact hHeld
     clear hK K
     try go_frame
     refine Zh 9 (fun K hK=> ?_)
     refine Je _ (.tmp 20) (.tmp 27) 27 rfl (w.heap.size+2) 29 i0 (.agg #[.int .i64 0, .slice none 0 0, .slice none 0 0]) 3 56 underlying27 hi hz0 hz1 hz2 rfl (by decide) _ j (D.flatMap Ze) rfl (by have:=g3.out.row;rw [hDl] at this;exact this) (w2.heap.size+1) 1 _ (Ze (.mk yn yb (.slice B1 yb.length f1) (.slice B2 yl.length f2) yl)) rfl (by exact hs3) (Yl (x:= .mk yn yb (.slice B1 yb.length f1) (.slice B2 yl.length f2) yl) rfl rfl) (by omega) (by unfold maxLen;omega) (by have:=e3.out.size;omega) ?_
     intro v9 w4 hown4 hg4 hv4
     obtain ⟨A9,c9,rfl⟩:=Zq hown4
     have hg4:w3.grownBy w4 (Value.slice Ai j ci).ownBlock:=hg4
     have hv4:(Value.slice A9 (j+1) c9).ownBlock=(Value.slice Ai j ci).ownBlock∨(Value.slice A9 (j+1) c9).ownBlock=some w3.heap.size:=hv4
     have hne:some o≠(Value.slice Ai j ci).ownBlock:=fun e=> by
      have hn:=g2.out.nd
      rw [List.nodup_cons] at hn
      exact hn.1 (by rw [←e];simp)
     have q4:=(hg4.block _ (Ea hol2 hb3.size) hne).trans q3
     have g4:Qg w4 (w.heap.size+2) o b (.slice A b.length c) (.slice A9 (j+1) c9) (D++ [.mk yn yb (.slice B1 yb.length f1) (.slice B2 yl.length f2) yl]):=by
      refine Qg.snoc (w:=X) (w2:=w2) (wa:=w3) (vi:= .slice Ai j ci) g2.out hoy.out.1 ?_ hoy.out.2.2.size (by have:=eX.out.size;omega) hb3 (by rw [hDl];exact hown4) hg4 hv4
      intro g hg
      rw [List.mem_cons] at hg
      rcases hg with rfl|hg
      ·exact Ea hol bX.size
      ·exact (gX.out.lt g hg).2
     have e4:=e3.out.grown hg4 e3.out.size (by
      intro k hk
      have:=(g3.out.row.lt k hk).1
      omega)
     have z4:o < w4.heap.size:=Ea hol2 (Nat.le_trans hb3.size hg4.size)
     have G4:=Fs (Ft g4 e4)
     clear hown4 hg4 hv4 hne g4 e4 hs3
     refine hK.out _ _ ?_ (fun hHeld=> ?_)
     ·exact ⟨Zc k2 G4.out.2 (by omega),Zc D0 G4.out.2 (by omega),Zc D1 G4.out.2 (by omega),Zc D2 G4.out.2 (by omega)⟩
     clear hK K
     try go_frame
     refine Za 10 (some 29) hHeld _ ?_;try go_frame
     refine Zh 11 (fun K hK=> ?_)
     have co2:=cell_of_row _ _ 2 _ _ (0,0) q4
     simp at co2
     have cof:=frozen_of_row _ _ 2 _ _ q4
     have st:=Fs (Mz q4 (.slice A9 (j+1) c9))
     have G5:=Fs (Ft (G4.out.1.store (i:=2) (.slice A9 (j+1) c9)) (Ft (G4.out.2.setCell (p:=⟨o,2,none⟩) hWo (.slice A9 (j+1) c9)) (show o < (w4.setCell ⟨o,2,none⟩ (.slice A9 (j+1) c9)).heap.size by simp;exact z4)))
     go_simp
     clear co2 cof
     refine hK.out _ _ ?_ (fun hHeld=> ?_)
     ·exact ⟨Zc k2 G5.out.2.1 (by omega),Zc D0 G5.out.2.1 (by omega),Zc D1 G5.out.2.1 (by omega),Zc D2 G5.out.2.1 (by omega)⟩
     clear hK K
     try go_frame
     refine wpAnyH_done (by kernel_rfl) ?_ _
     have HD:=Fs (show (D++ [(VM.mk yn yb (.slice B1 yb.length f1) (.slice B2 yl.length f2) yl)]).map VM.d=(l.take (j+1)).map VM.d by
      rw [List.map_append,hD.out,List.take_succ_eq_append_getElem hlt,List.map_append];simp only [List.map_cons,List.map_nil];rw [hoy.out.2.1])
     have HDl:(D++ [(VM.mk yn yb (.slice B1 yb.length f1) (.slice B2 yl.length f2) yl)]).length=j+1:=by rw [List.length_append,hDl];rfl
     clear q4 q3 q2 qX m2 d0 d1 d2 hSb hHeld qh bb hrd
     go_wp2
     go_roundw
     case rel=> exact ⟨j+1,by omega,by go_num,_,_,_,HD,HDl,st.out,G5.out.1,G5.out.2.2,G5.out.2.1⟩
     case measure=> simp [intOf];omega
  ·have hjn:j=l.length:=by omega
   subst hjn
   have r0':=Zc r0 bb (by omega)
   have r1':=Zc r1 bb (by omega)
   have r2':=Zc r2 bb (by omega)
   have x0:=cell_of_row _ _ 0 _ _ (0,0) qh
   have x1:=cell_of_row _ _ 1 _ _ (0,0) qh
   have x2:=cell_of_row _ _ 2 _ _ (0,0) qh
   simp at x0 x1 x2
   have g0:=(bb.frozen (p:=⟨w.heap.size+1,0,none⟩) (by show w.heap.size+1 < _;omega)).trans (fr 0)
   have g1:=(bb.frozen (p:=⟨w.heap.size+1,1,none⟩) (by show w.heap.size+1 < _;omega)).trans (fr 1)
   have g2:=(bb.frozen (p:=⟨w.heap.size+1,2,none⟩) (by show w.heap.size+1 < _;omega)).trans (fr 2)
   have hX:Zv.mk nn b (l.map VM.d)=Zv.mk nn b (D.map VM.d):=by rw [hD.out,List.take_length]
   have HX:=Fs hX
   have HB:=Fs (Ft (gr.fin nn) (hbW.trans (bb.mono (by omega))))
   have how:w.heap.size+1≠o:=by omega
   clear gr bb hX hD k0 k1 k2 r0 r1 r2 fr qh
   go_wp2
   refine bodyPost_ret (v:= .agg #[.int .i64 nn, .slice A b.length c, .slice Ai l.length ci]) (by simp [results,results31,go_sem,r0',r1',r2',x2]) rfl ⟨_,rfl,?_,?_⟩
   ·rw [HX.out]
    refine Ue.wide (Ue.keep (lo':=w.heap.size+1) (hi':=w.heap.size+2) HB.out.1 ?_ (by omega)) (by omega) (by simp)
    repeat (refine Xq.setCell ?_ (by omega) (by omega) _)
    exact Xq.refl _ _ _
   ·exact (((HB.out.2.setCell (p:=⟨w.heap.size+1,0,none⟩) (by show w.heap.size≤w.heap.size+1;omega) _).setCell (p:=⟨w.heap.size+1,1,none⟩) (by show w.heap.size≤w.heap.size+1;omega) _).setCell (p:=⟨w.heap.size+1,2,none⟩) (by show w.heap.size≤w.heap.size+1;omega) _)
end Go.Proofs.YteldgdelmaeokaaGreatDoor
