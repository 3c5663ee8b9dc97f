/- Out of ValHd, ValHe, Rg2, ValCp: the walks and plain laws that the claim needs. No condition but those that each theorem names. -/
import Derived.Test.YteldgdelmaeokaaDoorGf
import Derived.WalkSpells
import Derived.WalkLawsBesides
import Derived.Deep.RegionHeld3
import Derived.Test.YteldgdelmaeokaaDoorGb
import Derived.OwnWalk
import Derived.Deep.DeepCutAuto
set_option linter.unusedSimpArgs false
set_option linter.unusedVariables false
namespace Go.Proofs.YteldgdelmaeokaaDoor
open Go.RowKit
def MkV (lo hi:Nat) (w:World) (v:Value) (k r:Int):Prop:=∃(x:VM) (j:Nat),k=j∧r=(j+x.d.size:Nat)∧j+x.d.size≤4611686018427387000∧v=vmV x∧OwV1 (x.mkd j) lo hi w
theorem MkV.keep {lo hi lo' hi':Nat} {w w':World} {v:Value} {k r:Int} (h:MkV lo hi w v k r) (ho:Out lo' hi' w w') (hd:hi≤lo'∨hi'≤lo):MkV lo hi w' v k r:=by
 obtain ⟨x,j,h1,h2,h3,h4,h5⟩:=h
 exact ⟨x,j,h1,h2,h3,h4,h5.keep ho hd⟩
end Go.Proofs.YteldgdelmaeokaaDoor
namespace Go.Proofs.YteldgdelmaeokaaDoor
open Go.RowKit
end Go.Proofs.YteldgdelmaeokaaDoor
namespace Go.Proofs.YteldgdelmaeokaaDoor
open Go.RowKit
theorem rgTwo {P:Program} {ops:Array Oper} {Q:Exit→Act→World→Prop} {md:Region.Mode} {S:World→Prop} {oi oj:Oper} {fuel:Nat} {listed:Array Bool} {a:Act} {w:World} (i j:Nat)
  (h1:∀K':Act→World→Prop,Shut (∀a w,S w→(S w→wpAnyH P md ops Q S fuel (listed.setIfInBounds i true) a w)→K' a w)→Oper.wp P oi a w K' Q)
  (h2:∀K':Act→World→Prop,Shut (∀a w,S w→(S w→wpAnyH P md ops Q S fuel (listed.setIfInBounds j true) a w)→K' a w)→Oper.wp P oj a w K' Q)
  (hr:Region.ready md ops listed= [i,j]:=by kernel_rfl) (hi:nthOp ops.toList i=some oi:=by rfl) (hj:nthOp ops.toList j=some oj:=by rfl) (hwi:Region.wanted oi (yielded ops a.tmps)=true:=by rfl) (hwj:Region.wanted oj (yielded ops a.tmps)=true:=by rfl):wpAnyH P md ops Q S (fuel+1) listed a w:=
 wpAnyH_ready hr (by simp) (AllReadyH.cons (ops_nth hi) (fun K' hK=> by rw [if_pos hwi];exact h1 K' hK) (AllReadyH.cons (ops_nth hj) (fun K' hK=> by rw [if_pos hwj];exact h2 K' hK) AllReadyH.nil))
end Go.Proofs.YteldgdelmaeokaaDoor
namespace Go.Proofs.YteldgdelmaeokaaDoor
open Go.RowKit
theorem vmCells_one {x:VM} {A1 A2:Option Addr} {n1 n2 c1 c2:Nat} (h1:x.vb= .slice A1 n1 c1) (h2:x.vi= .slice A2 n2 c2):∀u∈vmCells x,u.oneCell'=true:=by
 intro u hu
 simp only [vmCells,h1,h2,List.mem_cons,List.mem_nil_iff,or_false] at hu
 rcases hu with rfl|rfl|rfl <;> rfl
structure Grow (w:World) (lo o:Nat) (b:List UInt8) (vb vi:Value) (D:List VM):Prop where
 bytes:w.ownsRow lo 5 1 vb b.length (u8s b)
 row:w.ownsRow lo 29 3 vi D.length (D.flatMap vmCells)
 its:∀x∈D,x.own lo w
 nd:(o::(vb.ownBlock.toList++(vi.ownBlock.toList++VM.bkss D))).Nodup
theorem Grow.keepB {w w':World} {lo o:Nat} {b:List UInt8} {vb vi:Value} {D:List VM} {bs:List Nat} (h:Grow w lo o b vb vi D) (ho:OutB bs w w') (hd:∀g∈vb.ownBlock.toList++(vi.ownBlock.toList++VM.bkss D),g ∉ bs):Grow w' lo o b vb vi D:=
 ⟨row_keepB h.bytes ho fun g hg=> hd g (by rw [hg];simp),row_keepB h.row ho fun g hg=> hd g (by rw [hg];simp),fun x hx=> (h.its x hx).keepB ho fun g hg=> hd g (by simp only [List.mem_append];exact .inr (.inr (VM.mem_bkss hx hg))),h.nd⟩
theorem Grow.lt {w:World} {lo o:Nat} {b:List UInt8} {vb vi:Value} {D:List VM} (h:Grow w lo o b vb vi D):∀g∈vb.ownBlock.toList++(vi.ownBlock.toList++VM.bkss D),lo≤g∧g < w.heap.size:=by
 intro g hg
 simp only [List.mem_append,Option.mem_toList] at hg
 rcases hg with hg|hg|hg
 ·exact h.bytes.lt g hg
 ·exact h.row.lt g hg
 ·have:∀l':List VM,(∀y∈l',y∈D)→g∈VM.bkss l'→lo≤g∧g < w.heap.size:=by
   intro l'
   induction l' with
   |nil=> intro _ h;rw [VM.bkss_nil] at h;simp at h
   |cons y l' ih'=>
    intro hs h'
    rw [VM.bkss_cons,List.mem_append] at h'
    rcases h' with h'|h'
    ·exact (h.its y (hs y (by simp))).lt g h'
    ·exact ih' (fun z hz=> hs z (by simp [hz])) h'
  exact this D (fun y hy=> hy) hg
theorem Grow.below {w w':World} {lo o:Nat} {b:List UInt8} {vb vi:Value} {D:List VM} (h:Grow w lo o b vb vi D) (hb:Below w.heap.size w w'):Grow w' lo o b vb vi D:=
 h.keepB (bs:= []) (OutB.of_below hb) fun g _=> by simp
theorem Grow.store {w:World} {lo o i:Nat} {b:List UInt8} {vb vi:Value} {D:List VM} (h:Grow w lo o b vb vi D) (u:Value):Grow (w.setCell ⟨o,i,none⟩ u) lo o b vb vi D:=
 h.keepB (bs:= [o]) (OutB.of_grown (grownBy_setCell w o i u) fun q e=> by cases e;simp) fun g hg hm=> by
  have hn:=h.nd
  rw [List.nodup_cons] at hn
  simp only [List.mem_singleton] at hm
  exact hn.1 (hm ▸ hg)
theorem Grow.snoc {w w2 w3:World} {lo o:Nat} {b:List UInt8} {vb vi vi':Value} {D:List VM} {x:VM} (h:Grow w2 lo o b vb vi D) (hx:OwV1 x w.heap.size w2.heap.size w2) (hlt:∀g∈o::(vb.ownBlock.toList++(vi.ownBlock.toList++VM.bkss D)),g < w.heap.size) (hw:w.heap.size≤w2.heap.size) (hlo:lo≤w.heap.size)
  {wa:World} (ha:Below w2.heap.size w2 wa) (hr:w3.ownsRow lo 29 3 vi' (D.length+1) (D.flatMap vmCells++vmCells x)) (hg:wa.grownBy w3 vi.ownBlock) (hv:vi'.ownBlock=vi.ownBlock∨vi'.ownBlock=some wa.heap.size):Grow w3 lo o b vb vi' (D++ [x]):=by
 have h1:=h.below ha
 have hx1:=hx.keep (Out.of_below ha 0 0) (.inr (Nat.zero_le _))
 have og:OutB vi.ownBlock.toList wa w3:=OutB.of_grown hg fun q e=> by rw [e];simp
 have hnd:=h.nd
 rw [List.nodup_cons,List.nodup_append,List.nodup_append] at hnd
 obtain ⟨ho,hb1,⟨hb2,hb3,hb4⟩,hb5⟩:=hnd
 have hz:=ha.size
 have hxv:∀g∈x.bks,∀q∈o::(vb.ownBlock.toList++(vi.ownBlock.toList++VM.bkss D)),g≠q:=fun g hg q hq e=> by have:=hx.rng g hg;have:=hlt q hq;omega
 refine ⟨row_keepB h1.bytes og fun g hg hm=> hb5 g (by rw [hg];simp) g (List.mem_append_left _ hm) rfl,?_,fun y hy=> ?_,?_⟩
 ·rw [List.length_append,List.flatMap_append]
  simpa using hr
 ·simp only [List.mem_append,List.mem_singleton] at hy
  rcases hy with hy|rfl
  ·exact (h1.its y hy).keepB og fun g hg hm=> hb4 g hm g (VM.mem_bkss hy hg) rfl
  ·exact (hx1.own.keepB og fun g hg hm=> hxv g hg g (List.mem_cons_of_mem _ (List.mem_append_right _ (List.mem_append_left _ hm))) rfl).base hlo
 ·rw [VM.bkss_append,VM.bkss_cons,VM.bkss_nil,List.append_nil]
  have hvi:∀g∈vi'.ownBlock.toList,g∈vi.ownBlock.toList∨g=wa.heap.size:=fun g hg=> by
   rcases hv with e|e
   ·rw [e] at hg;exact .inl hg
   ·rw [e] at hg;simp at hg;exact .inr hg
  have hbig:∀q∈o::(vb.ownBlock.toList++(vi.ownBlock.toList++VM.bkss D)),q≠wa.heap.size:=fun q hq e=> by have:=hlt q hq;omega
  have hxb:∀g∈x.bks,g≠wa.heap.size:=fun g hg e=> by have:=hx.rng g hg;omega
  rw [List.nodup_cons,List.nodup_append,List.nodup_append,List.nodup_append]
  refine ⟨?_,hb1,⟨by cases vi'.ownBlock <;> simp,⟨hb3,hx.nd,fun a ha c hc e=> hxv c hc a (List.mem_cons_of_mem _ (List.mem_append_right _ (List.mem_append_right _ ha))) e.symm⟩,fun a ha c hc e=> ?_⟩,fun a ha c hc e=> ?_⟩
  ·intro hm
   simp only [List.mem_append] at hm
   rcases hm with hm|hm|hm|hm
   ·exact ho (List.mem_append_left _ hm)
   ·rcases hvi o hm with e|e
    ·exact ho (List.mem_append_right _ (List.mem_append_left _ e))
    ·exact hbig o List.mem_cons_self e
   ·exact ho (List.mem_append_right _ (List.mem_append_right _ hm))
   ·exact hxv o hm o List.mem_cons_self rfl
  ·subst e
   rw [List.mem_append] at hc
   rcases hvi a ha with e|e
   ·rcases hc with hc|hc
    ·exact hb4 a e a hc rfl
    ·exact hxv a hc a (List.mem_cons_of_mem _ (List.mem_append_right _ (List.mem_append_left _ e))) rfl
   ·rcases hc with hc|hc
    ·exact hbig a (List.mem_cons_of_mem _ (List.mem_append_right _ (List.mem_append_right _ hc))) e
    ·exact hxb a hc e
  ·subst e
   simp only [List.mem_append] at hc
   rcases hc with hc|hc|hc
   ·rcases hvi a hc with e|e
    ·exact hb5 a ha a (List.mem_append_left _ e) rfl
    ·exact hbig a (List.mem_cons_of_mem _ (List.mem_append_left _ ha)) e
   ·exact hb5 a ha a (List.mem_append_right _ hc) rfl
   ·exact hxv a hc a (List.mem_cons_of_mem _ (List.mem_append_left _ ha)) rfl
theorem Grow.fin {w:World} {lo o:Nat} {b:List UInt8} {vb vi:Value} {D:List VM} (h:Grow w lo o b vb vi D) (n:Int):OwV (.mk n b (D.map VM.d)) lo w.heap.size w (.agg #[.int .i64 n,vb,vi]):=by
 have hn:=h.nd
 rw [List.nodup_cons] at hn
 refine ⟨.mk n b vb vi D,by rw [VM.d_mk],rfl,⟨.mk h.bytes h.row h.its,?_,?_⟩⟩
 ·rw [VM.bks_mk];exact hn.2
 ·rw [VM.bks_mk];exact h.lt
theorem Grow.mk0 {w:World} {lo o:Nat} {b:List UInt8} {vb vi:Value} (hb:w.ownsRow lo 5 1 vb b.length (u8s b)) (hi:w.ownsRow lo 29 3 vi 0 []) (d1:vb.ownBlock≠some o) (d2:vi.ownBlock≠some o) (d3:∀g,vi.ownBlock=some g→vb.ownBlock≠some g):Grow w lo o b vb vi []:=by
 refine ⟨hb,hi,by simp,?_⟩
 rw [VM.bkss_nil,List.append_nil,List.nodup_cons,List.nodup_append]
 refine ⟨?_,by cases vb.ownBlock <;> simp,by cases vi.ownBlock <;> simp,fun a ha c hc e=> ?_⟩
 ·intro hm
  simp only [List.mem_append,Option.mem_toList] at hm
  rcases hm with hm|hm
  ·exact d1 hm
  ·exact d2 hm
 ·subst e
  exact d3 a (Option.mem_toList.1 hc) (Option.mem_toList.1 ha)
end Go.Proofs.YteldgdelmaeokaaDoor
