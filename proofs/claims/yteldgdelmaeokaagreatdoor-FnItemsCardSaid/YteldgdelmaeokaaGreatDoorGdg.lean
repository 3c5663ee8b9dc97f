/- Out of Dr22S, Dr22Q, Dr22K, Dr22D, Dr22I: the walks and plain laws that the claim needs. No condition but those that each theorem names. -/
import Derived.Test.YteldgdelmaeokaaGreatDoorGdc
import Derived.Test.YteldgdelmaeokaaGreatDoorGde
import Derived.Test.YteldgdelmaeokaaGreatDoorGdf
import Derived.Test.YteldgdelmaeokaaGreatDoorGda
import Derived.IntWalk
import Derived.WalkSpells
import Derived.WalkLawsBesides
import Derived.Deep.RegionHeld3
import Derived.Deep.DeepCutAuto
set_option linter.unusedSimpArgs false
set_option linter.unusedVariables false
set_option maxHeartbeats 8000000
set_option maxRecDepth 100000
namespace Go.Proofs.YteldgdelmaeokaaGreatDoor
open Go.Proofs.Tryz Go.RowKit
def OneE (b:Nat) (v:Value) (l:List UInt8) (w:World) (e:Ending) (w':World):Prop:=
 ∃(A:Option Addr) (c:Nat) (L:List RM) (x:VM) (S:ByteArray) (r:Int),e= .returned (.tuple #[.agg #[.slice A L.length c],Qr x, .string S, .int .i64 r])∧Tb (L.map RM.d)∧1≤L.length∧L.length≤9∧x.d.size≤589825∧S.size≤4096∧(-1≤r∧r < L.length)∧
  Zz w.heap.size w'.heap.size (fun W=> Jc W w'.heap.size (.slice A L.length c) L∧x.rd W w'.heap.size) w'∧Qw b w w'∧Qm b v l w'
theorem Iu {D:List Zk} {x:Zt} {ok:Bool} {S:List ByteArray} (h0:0 < D.length): -1≤(Jw D x ok S).2.1∧(Jw D x ok S).2.1 < D.length:=by
 unfold Jw
 split
 ·rename_i hc
  simp only [Bool.and_eq_true] at hc
  cases hw:Ji D (D.length - 1:Nat) x S with
  |none=> simp;omega
  |some q=>
   obtain ⟨k,y⟩:=q
   have h1:=hc.2.2
   rw [show ((D.length:Int) - 1)=((D.length - 1:Nat):Int) by omega] at h1
   obtain ⟨k',rfl,hk'⟩:=Vg (Tt h1 hw)
   show -1≤(k':Int)∧(k':Int) < D.length
   omega
 ·simp
  omega
structure Gk (b:Nat) (v:Value) (l:List UInt8) (vD:Value) (L:List RM) (w:World) (gd gv:Nat) (x:VM) (W:World):Prop where
 cur:Qm b v l W
 go:Qw b w W
 res:Zr W w.heap.size 26 #[.slice none 0 0]
 req:Zr W (w.heap.size+1) 29 #[.int .i64 0, .slice none 0 0, .slice none 0 0]
 dbox:Zr W gd 26 #[vD]
 vbox:Zr W gv 29 #[.int .i64 x.n,x.vb,x.vi]
 st:Zz (w.heap.size+2) W.heap.size (fun W'=> Jc W' W.heap.size vD L∧x.rd W' W.heap.size) W
 size:x.d.size≤589825
 hb:b < w.heap.size
 hgd:w.heap.size+2≤gd
 hgv:w.heap.size+2≤gv
section
variable {b gd gv:Nat} {v vD:Value} {l:List UInt8} {L:List RM} {w W W' W2:World} {x:VM}
theorem Zz.push {lo:Nat} {vD:Value} {L:List RM} {x:VM} {W W':World} (h:Zz lo W.heap.size (fun W'=> Jc W' W.heap.size vD L∧x.rd W' W.heap.size) W) (hz:W.heap.size≤W'.heap.size) (hk:∀k,lo≤k→k < W.heap.size→W'.heap[k]?=W.heap[k]?):
  Zz lo W'.heap.size (fun W2=> Jc W2 W'.heap.size vD L∧x.rd W2 W'.heap.size) W':=by
 refine ⟨Nat.le_refl _,fun w2 h2 k2=> ?_⟩
 have:=h.2 w2 (by omega) fun k h1 h3=> (k2 k h1 (by omega)).trans (hk k h1 h3)
 exact ⟨this.1.more hz,this.2.more hz⟩
theorem Gk.step (h:Gk b v l vD L w gd gv x W) (hs:Qw b W W') (hc:Qm b v l W'):Gk b v l vD L w gd gv x W':=
 have h1:=h.hb
 have h2:=h.hgd
 have h3:=h.hgv
 ⟨hc,h.go.trans hs,h.res.go hs (by omega),h.req.go hs (by omega),h.dbox.go hs (by omega),h.vbox.go hs (by omega),h.st.push hs.size fun k h1 h2=> hs.block k h2 (fun e=> by have:k=b:=Option.some.inj e;omega),h.size,h.hb,h.hgd,h.hgv⟩
theorem Gk.below (h:Gk b v l vD L w gd gv x W) (hb:Below W.heap.size W W'):Gk b v l vD L w gd gv x W':=h.step (Qw.of_below hb) (h.cur.below hb)
theorem Gk.alloc (h:Gk b v l vD L w gd gv x W) (o:Obj):Gk b v l vD L w gd gv x (W.alloc o):=h.below ((Below.refl _ _).alloc (Nat.le_refl _) o)
theorem Gk.drew (h:Gk b v l vD L w gd gv x W):Gk b v l vD L w gd gv x W.drew:=h.step ⟨rfl,rfl,rfl,Nat.le_refl _,fun _ _ _=> rfl⟩ h.cur.drew
theorem Gk.bent {x':VM} {lo0 hi1 hi0:Nat} (h:Gk b v l vD L w gd gv x W) (hd:Zz lo0 hi1 (fun W'=> Jc W' hi1 vD L) W) (hlo0:w.heap.size+2≤lo0) (hi10:hi1≤hi0) (hi1v:hi1≤gv) (hdv:gd < gv) (hx:Ut x hi0 gv W) (hgd:gd < hi0) (hs:x'.d.size≤589825) (hr:Od (fun q=> q∈x.bks∨W.heap.size≤q) x' W2) (ho:Xb (b::x.bks) W W2) (hc:Qm b v l W2):
  Zr W2 gv 29 #[.int .i64 x.n,x.vb,x.vi]∧Gk b v l vD L w gd gv x' (((W2.setCell ⟨gv,0,none⟩ (.int .i64 x'.n)).setCell ⟨gv,1,none⟩ x'.vb).setCell ⟨gv,2,none⟩ x'.vi):=by
 have h1:=h.hb
 have h2:=h.hgd
 have h3:=h.hgv
 have hgw:=h.go.size
 have hgv2:=h.vbox.lt
 have hd0:=hd.1
 have hbk:∀q∈x.bks,hi0≤q∧q < gv:=fun q hq=> hx.rng q hq
 have hne:∀q,(q < hi0∨gv≤q)→q≠b→q ∉ b::x.bks:=fun q h1 h2 hm=> (List.mem_cons.1 hm).elim h2 fun h3=> by have:=hbk q h3;omega
 have hz2:=ho.size
 have hv2:Zr W2 gv 29 #[.int .i64 x.n,x.vb,x.vi]:=(ho.block _ hgv2 (hne _ (.inr (Nat.le_refl _)) (by omega))).trans h.vbox
 have hset:∀q,q≠gv→(((W2.setCell ⟨gv,0,none⟩ (.int .i64 x'.n)).setCell ⟨gv,1,none⟩ x'.vb).setCell ⟨gv,2,none⟩ x'.vi).heap[q]?=W2.heap[q]?:=fun q hq=> by
  rw [Below.heap_setCell _ _ _ q hq,Below.heap_setCell _ _ _ q hq,Below.heap_setCell _ _ _ q hq]
 have hsz:(((W2.setCell ⟨gv,0,none⟩ (.int .i64 x'.n)).setCell ⟨gv,1,none⟩ x'.vb).setCell ⟨gv,2,none⟩ x'.vi).heap.size=W2.heap.size:=by simp [World.setCell]
 have hkeep:∀{T:TypeId} {cs:Array Value} {q:Nat},Zr W q T cs→(q < hi0∨gv≤q)→q≠b→q≠gv→Zr (((W2.setCell ⟨gv,0,none⟩ (.int .i64 x'.n)).setCell ⟨gv,1,none⟩ x'.vb).setCell ⟨gv,2,none⟩ x'.vi) q T cs:=fun hb h1 h2 h3=> (hset _ h3).trans ((ho.block _ hb.lt (hne _ h1 h2)).trans hb)
 have hgo2:Qw b w W2:=⟨ho.os.trans h.go.os,ho.tape.trans h.go.tape,ho.output.trans h.go.output,Nat.le_trans hgw hz2,fun k hk hn=> (ho.block k (by omega) (hne k (.inl (by omega)) (fun e=> hn (by rw [e])))).trans (h.go.block k hk hn)⟩
 refine ⟨hv2,((hc.set (by omega) _).set (by omega) _).set (by omega) _,((hgo2.set (by omega) _).set (by omega) _).set (by omega) _,hkeep h.res (.inl (by omega)) (by omega) (by omega),hkeep h.req (.inl (by omega)) (by omega) (by omega),hkeep h.dbox (.inl hgd) (by omega) (by omega),?_,?_,hs,h1,h2,h3⟩
 ·have:=((hv2.set 0 (.int .i64 x'.n)).set 1 x'.vb).set 2 x'.vi
  simpa using this
 ·refine ⟨Nat.le_refl _,fun w5 h5 k5=> ⟨?_,?_⟩⟩
  ·refine (hd.2 w5 (by omega) fun k q1 q2=> ?_).more (by omega)
   rw [k5 k (by omega) (by omega),hset k (by omega),ho.block k (by omega) (hne k (.inl (by omega)) (by omega))]
  ·rw [hsz]
   have hb2:∀q,(q∈x.bks∨W.heap.size≤q)→w.heap.size+2≤q∧q≠gv:=fun q hq=> hq.elim (fun h=> by have:=hbk q h;omega) (fun h=> by omega)
   refine hr w5 (by omega) fun q q1 q2=> ?_
   rw [k5 q (hb2 q q2).1 (by omega),hset q (hb2 q q2).2]
theorem Gk.fin (h:Gk b v l vD L w gd gv x W):∃Wf,Wf=(((W.setCell ⟨w.heap.size,0,none⟩ vD).setCell ⟨w.heap.size+1,0,none⟩ (.int .i64 x.n)).setCell ⟨w.heap.size+1,1,none⟩ x.vb).setCell ⟨w.heap.size+1,2,none⟩ x.vi∧
  Zr Wf w.heap.size 26 #[vD]∧Zr Wf (w.heap.size+1) 29 #[.int .i64 x.n,x.vb,x.vi]∧Qw b w Wf∧Qm b v l Wf∧Zz w.heap.size Wf.heap.size (fun W=> Jc W Wf.heap.size vD L∧x.rd W Wf.heap.size) Wf:=by
 have h1:=h.hb
 refine ⟨_,rfl,?_,?_,?_,?_,?_⟩
 ·have:=(((h.res.set 0 vD).other (q:=w.heap.size+1) (j:=0) (by omega) (.int .i64 x.n)).other (q:=w.heap.size+1) (j:=1) (by omega) x.vb).other (q:=w.heap.size+1) (j:=2) (by omega) x.vi
  simpa using this
 ·have:=(((h.req.other (q:=w.heap.size) (j:=0) (by omega) vD).set 0 (.int .i64 x.n)).set 1 x.vb).set 2 x.vi
  simpa using this
 ·exact (((h.go.set (Nat.le_refl _) _).set (by omega) _).set (by omega) _).set (by omega) _
 ·exact (((h.cur.set (by omega) _).set (by omega) _).set (by omega) _).set (by omega) _
 ·refine (h.st.push (by simp [World.setCell]) fun k h1 h2=> ?_).wide (by omega) (Nat.le_refl _) (Nat.le_refl _)
  rw [Below.heap_setCell _ _ _ k (show k≠w.heap.size+1 by omega),Below.heap_setCell _ _ _ k (show k≠w.heap.size+1 by omega),Below.heap_setCell _ _ _ k (show k≠w.heap.size+1 by omega),Below.heap_setCell _ _ _ k (show k≠w.heap.size by omega)]
end
theorem findV_pos {D:List Zk} {x:Zt} {ok:Bool} {S:List ByteArray} (h0:0 < D.length) (h:(Jw D x ok S).2.2=true):0≤(Jw D x ok S).2.1:=by
 unfold Jw at h ⊢
 split
 ·rename_i hc
  rw [if_pos hc] at h
  simp only [Bool.and_eq_true] at hc
  cases hw:Ji D (D.length - 1:Nat) x S with
  |none=> rw [hw] at h;simp at h
  |some q=>
   obtain ⟨k,y⟩:=q
   have h1:=hc.2.2
   rw [show ((D.length:Int) - 1)=((D.length - 1:Nat):Int) by omega] at h1
   obtain ⟨k',rfl,hk'⟩:=Vg (Tt h1 hw)
   show (0:Int)≤(k':Int)
   omega
 ·rename_i hc
  rw [if_neg hc] at h
  simp at h
theorem below_p3 {base g:Nat} {a w:World} (h:Below base a w) (hg:base≤g) (x y z:Value):Below base a (((w.setCell ⟨g,0,none⟩ x).setCell ⟨g,1,none⟩ y).setCell ⟨g,2,none⟩ z):=((h.setCell hg _).setCell hg _).setCell hg _
structure DQ (g lo:Nat) (w:World) (v:Value) (l:List RM):Prop where
 row:w.ownsRow lo 50 8 v l.length (l.flatMap Qp)
 ng:v.ownBlock≠some g
 parts:∀r∈l,∀w':World,w.heap.size≤w'.heap.size→(∀k,lo≤k→k < w.heap.size→k≠g→v.ownBlock≠some k→w'.heap[k]?=w.heap[k]?)→r.rd w' w.heap.size
section
variable {g lo:Nat} {w w' w2 w3 wa:World} {v v':Value} {l:List RM}
theorem DQ.of (h:DG lo w v l) (hb:Below w.heap.size w w'):DQ w.heap.size lo w' v l:=
 ⟨Qe h.row fun g hg=> hb.block g (h.row.lt g hg).2,fun e=> absurd (h.row.lt _ e).2 (by omega),fun r hr w2 h2 k2=>
   (h.parts r hr w2 (Nat.le_trans hb.size h2) fun k h1 h3 hn=> (k2 k h1 (Nat.lt_of_lt_of_le h3 hb.size) (by omega) hn).trans (hb.block k h3)).more hb.size⟩
theorem DQ.stays (h:DQ g lo w v l):Zz lo w.heap.size (fun w'=> Jc w' w.heap.size v l) w:=⟨Nat.le_refl _,fun w2 h2 k2=>
 ⟨(Ti h.row (Nat.le_refl _)).2 w2 h2 k2,fun r hr=> h.parts r hr w2 h2 fun k h1 h3 _ _=> k2 k h1 h3⟩⟩
theorem DQ.step (h:DQ g lo w v l) (hz:w.heap.size≤w'.heap.size) (hk:∀k,lo≤k→k < w.heap.size→k≠g→w'.heap[k]?=w.heap[k]?):DQ g lo w' v l:=
 ⟨Qe h.row fun q hq=> hk q (h.row.lt q hq).1 (h.row.lt q hq).2 (fun e=> h.ng (e ▸ hq)),h.ng,fun r hr w2 h2 k2=> (h.parts r hr w2 (Nat.le_trans hz h2) fun k h1 h3 h4 hn=> (k2 k h1 (Nat.lt_of_lt_of_le h3 hz) h4 hn).trans (hk k h1 h3 h4)).more hz⟩
theorem DQ.snoc {r:RM} (h:DQ g lo w2 v l) (hr:Zz w.heap.size w2.heap.size (fun w'=> r.rd w' w2.heap.size) w2) (hv:∀q,v.ownBlock=some q→q < w.heap.size) (hg0:g < w.heap.size) (hw:w.heap.size≤w2.heap.size) (hlo:lo≤w.heap.size)
  (ha:Below w2.heap.size w2 wa) (hrow:w3.ownsRow lo 50 8 v' (l.length+1) (l.flatMap Qp++Qp r)) (hg:wa.grownBy w3 v.ownBlock) (hb:v'.ownBlock=v.ownBlock∨v'.ownBlock=some wa.heap.size):DQ g lo w3 v' (l++ [r]):=by
 have hz:=ha.size
 have hz3:=hg.size
 refine ⟨by rw [List.length_append,List.flatMap_append];simpa using hrow,fun e=> ?_,fun q hq w4 h4 k4=> ?_⟩
 ·rcases hb with e2|e2
  ·exact h.ng (e2 ▸ e)
  ·rw [e2] at e;injection e;omega
 have hkeep:∀k,lo≤k→k < w2.heap.size→k≠g→v.ownBlock≠some k→w4.heap[k]?=w2.heap[k]?:=fun k h1 h2 h3 hn=> by
  rw [k4 k h1 (by omega) h3 (fun e=> by
   rcases hb with e2|e2
   ·exact hn (e2 ▸ e)
   ·rw [e2] at e;injection e;omega),hg.block k (by omega) (fun e=> hn e.symm),ha.block k h2]
 rcases List.mem_append.1 hq with hq|hq
 ·exact (h.parts q hq w4 (by omega) hkeep).more (by omega)
 ·simp only [List.mem_singleton] at hq
  subst hq
  exact (hr.2 w4 (by omega) fun k h1 h2=> hkeep k (by omega) h2 (by omega) (fun e=> by have:=hv k e;omega)).more (by omega)
end
structure DqS (b:Nat) (v:Value) (l:List UInt8) (w:World) (lo g:Nat) (vD:Value) (L:List RM) (W:World):Prop where
 cur:Qm b v l W
 go:Qw b w W
 res:Zr W w.heap.size 26 #[.slice none 0 0]
 req:Zr W (w.heap.size+1) 29 #[.int .i64 0, .slice none 0 0, .slice none 0 0]
 dq:DQ g lo W vD L
 box:Zr W g 26 #[vD]
 dr:Tb (L.map RM.d)
 hb:b < w.heap.size
 hlo:w.heap.size+2≤lo
 hg:lo≤g
section
variable {b lo g:Nat} {v vD vD':Value} {l:List UInt8} {L:List RM} {w W W' W2 Wa W3:World}
theorem DqS.step (h:DqS b v l w lo g vD L W) (hs:Qw b W W') (hc:Qm b v l W'):DqS b v l w lo g vD L W':=
 have h1:=h.hb
 have h2:=h.hlo
 have h3:=h.hg
 ⟨hc,h.go.trans hs,h.res.go hs (by omega),h.req.go hs (by omega),h.dq.step hs.size (fun k h1 h2 _=> hs.block k h2 (fun e=> by injection e;omega)),h.box.go hs (by omega),h.dr,h.hb,h.hlo,h.hg⟩
theorem DqS.below (h:DqS b v l w lo g vD L W) (hb:Below W.heap.size W W'):DqS b v l w lo g vD L W':=h.step (Qw.of_below hb) (h.cur.below hb)
theorem DqS.drew (h:DqS b v l w lo g vD L W):DqS b v l w lo g vD L W.drew:=h.step ⟨rfl,rfl,rfl,Nat.le_refl _,fun _ _ _=> rfl⟩ h.cur.drew
theorem DqS.app {r:RM} (h:DqS b v l w lo g vD L W) (hr:DrR (L.map RM.d) r.d) (hst:Zz W.heap.size W2.heap.size (fun w''=> r.rd w'' W2.heap.size) W2) (hgo:Qw b W W2) (hcu:Qm b v l W2) (ha:Below W2.heap.size W2 Wa)
  (own2:W3.ownsRow lo 50 8 vD' (L.length+1) (L.flatMap Qp++Qp r)) (hg:Wa.grownBy W3 vD.ownBlock) (hv:vD'.ownBlock=vD.ownBlock∨vD'.ownBlock=some Wa.heap.size):
  Zr W3 g 26 #[vD]∧DqS b v l w lo g vD' (L++ [r]) (W3.setCell ⟨g,0,none⟩ vD'):=by
 have h1:=h.hb
 have h2:=h.hlo
 have h3:=h.hg
 have hgl:=h.box.lt
 have hS:=(h.step hgo hcu).below ha
 have hr0:∀k,vD.ownBlock=some k→lo≤k:=fun k e=> (h.dq.row.lt k e).1
 have hB:Zr W3 g 26 #[vD]:=hS.box.row hg (fun e=> h.dq.ng e)
 have hdq:=(h.step hgo hcu).dq.snoc hst (fun k e=> (h.dq.row.lt k e).2) hgl hgo.size (by omega) ha own2 hg hv
 have hz3:=hg.size
 refine ⟨hB,(hS.cur.rowG hg fun k e=> by have:=hr0 k e;omega).set (by omega) _,(hS.go.rowG hg fun k e=> by have:=hr0 k e;omega).set (by omega) _,(hS.res.row hg fun e=> by have:=hr0 _ e;omega).other (by omega) _,(hS.req.row hg fun e=> by have:=hr0 _ e;omega).other (by omega) _,
  hdq.step (by simp [World.setCell]) (fun k h1 h2 h3=> Below.heap_setCell _ _ _ k h3),?_,?_,h1,h2,h3⟩
 ·have:=hB.set 0 vD'
  simpa using this
 ·rw [List.map_append];exact h.dr.snoc hr
end
theorem l22One_k (b:Nat) (v:Value) (l:List UInt8) (Kd:Int) (w:World) (h:Qm b v l w) (hK1:1≤Kd) (hK10:Kd≤10):Calls prog 20 #[.pointer (some ⟨b,0,none⟩), .int .i64 Kd] w (OneE b v l w):=by
 obtain ⟨i0,hi,hz0,hz1,hz2⟩:=info_parts info_rule
 have hbw:=h.lt
 obtain ⟨W0,hW0⟩:∃W0,W0=(w.alloc (.cells #[.slice none 0 0] 26)).alloc (.cells #[.int .i64 0, .slice none 0 0, .slice none 0 0] 29):=⟨_,rfl⟩
 have hb0:Below w.heap.size w W0:=by rw [hW0];exact ((Below.refl w.heap.size w).alloc (Nat.le_refl _) _).alloc (by simp) _
 have hz00:w.heap.size+2≤W0.heap.size:=by rw [hW0];simp
 have R0:Zr W0 w.heap.size 26 #[.slice none 0 0]:=by rw [hW0];exact (Zr.new w _ _).alloc _
 have Q0:Zr W0 (w.heap.size+1) 29 #[.int .i64 0, .slice none 0 0, .slice none 0 0]:=by rw [hW0];have:=Zr.new (w.alloc (.cells #[.slice none 0 0] 26)) 29 #[.int .i64 0, .slice none 0 0, .slice none 0 0];simpa using this
 have H0:=Fd (And.intro (h.below hb0) (And.intro (Qw.of_below (b:=b) hb0) (And.intro R0 Q0)))
 clear h hb0 R0 Q0
 go_enter func20,ntmps20
 go_upto_region 1 with fail
 rw [←hW0]
 clear hW0
 go_wp2_with fail
 refine (Mf b v l W0 H0.out.1).mono ?_
 rintro e w1 ⟨A,c,L,rfl,hdr,hl1,hl6,hdg,hgo,hcu⟩
 have hz1':=hgo.size
 have hzl:=hdg.stays.1
 obtain ⟨W2,hW2⟩:∃W2,W2=w1.alloc (.cells #[.slice A L.length c] 26):=⟨_,rfl⟩
 have h12:Below w1.heap.size w1 W2:=by rw [hW2];exact (Below.refl _ _).alloc (Nat.le_refl _) _
 have D2:Zr W2 w1.heap.size 26 #[.slice A L.length c]:=by rw [hW2];exact Zr.new w1 _ _
 have hz2':w1.heap.size < W2.heap.size:=D2.lt
 have hzb:W0.heap.size+2≤w1.heap.size:=by
  rcases hdg.row.2 with ⟨-,e⟩|⟨q,cap,cur, -,hb,hg, -⟩
  ·omega
  ·have:=(Array.getElem?_eq_some_iff.1 hg).1;omega
 have HX:=Fd (show DqS b v l w (W0.heap.size+2) w1.heap.size (.slice A L.length c) L W2 from ⟨hcu.below h12,H0.out.2.1.trans (hgo.trans (Qw.of_below h12)),(H0.out.2.2.1.go hgo (by omega)).below h12,(H0.out.2.2.2.go hgo (by omega)).below h12, .of hdg h12,D2,hdr,hbw,by omega,hzb⟩)
 have hK0:(0:Int) < Kd:=by omega
 clear hdg hgo hcu h12 D2 hdr H0 hzl
 go_upto_region 2 with fail
 rw [←hW2]
 clear hW2
 go_wp2
 go_loopw [9] (fun i wr=> ∃(k:Nat) (A':Option Addr) (c':Nat) (L':List RM),i= .int .i64 k∧k≤3∧L'.length≤6+k∧1≤L'.length∧DqS b v l w (W0.heap.size+2) w1.heap.size (.slice A' L'.length c') L' wr) (fun i _=> 3 - (intOf i).toNat)
 case atStart=> exact ⟨0,_,_,L,rfl,by omega,by omega,hl1,HX.out⟩
 case round=>
  clear HX hl1 hl6 hz2'
  obtain ⟨k,Ar,cr,L,rfl,hk3,hL8,hL1,hds⟩:=hrel
  by_cases hlt:k < 3
  ·have hlt':(k:Int) < 3:=by omega
   have hL8:L.length≤8:=by omega
   have hzr:=hds.box.lt
   have HX:=Fd hds.drew
   clear hds
   go_wp2_with fail
   refine Qs (S:=(fun w9=> w9.cell? ⟨w1.heap.size,0,none⟩=some (.slice Ar L.length cr))) 13 (by kernel_rfl) ?_ (fun hHeld=> ?_)
   ·(try dsimp only);exact HX.out.box.cell 0 rfl
   refine Zs 0 (some 28) hHeld _ ?_;try go_frame
   refine Zs 1 (some 29) hHeld _ ?_;try go_frame
   refine Zs 2 (some 30) hHeld _ ?_;try go_frame
   refine Zs 3 (some 31) hHeld _ ?_;try go_frame
   refine Zs 4 (some 32) hHeld _ ?_;try go_frame
   refine Zs 5 (some 33) hHeld _ ?_;try go_frame
   refine Zs 6 (some 34) hHeld _ ?_;try go_frame
   refine Qv 7 (fun K hK=> ?_)
   (try go_simp)
   obtain ⟨X1,hX1⟩:∃V,V=(wr.alloc (.cells #[.int .i64 Kd, .int .i64 Kd, .int .i64 6, .int .i64 9] 3)).drew:=⟨_,rfl⟩;rw [←hX1];have hbk:Zr X1 wr.heap.size 3 #[.int .i64 Kd, .int .i64 Kd, .int .i64 6, .int .i64 9]:=(by rw [hX1];exact Zr.new wr _ _);have hzx1:X1.heap.size=wr.heap.size+1:=(by rw [hX1];simp);have hI:=Fd (show Zz wr.heap.size (wr.heap.size+1) (fun w'=> Yu w' (wr.heap.size+1) (.slice (some ⟨wr.heap.size,0,none⟩) 4 4) [Kd,Kd,6,9]) X1 from ⟨by omega,fun w5 h5 k5=> Rz (show Zr w5 _ 3 _ from (k5 _ (by omega) (by omega)).trans hbk) rfl (by simp [maxLen]) (by omega)⟩);have HX:=Fd (HX.out.below (W':=X1) (by rw [hX1];exact (Below.refl _ _).alloc (Nat.le_refl _) _));clear hX1 hbk;have hzx1:X1.heap.size≤wr.heap.size+1:=Nat.le_of_eq hzx1
   refine hK.out _ _ ?_ (fun hHeld=> ?_)
   ·(try dsimp only);first|exact hk0|exact HX.out.box.cell 0 rfl
   clear hK K
   try go_frame
   refine Qv 8 (fun K hK=> ?_)
   go_simp
   refine (Tm b wr.heap.size (wr.heap.size+1) (wr.heap.size+1) v _ l [Kd,Kd,6,9] X1 HX.out.cur hI.out (by omega) (by simp) (by simp)).mono ?_;rintro e X0 ⟨⟨z,hz,rfl⟩,hs,hzq,hc3⟩;clear hzq;have hzz:1≤z∧z≤10:=(by simp only [List.mem_cons,List.not_mem_nil,or_false] at hz;omega);have hza:=hzz.1;have hzb':=hzz.2;have HX:=Fd (HX.out.step hs hc3);clear hz hs hc3 hI hzz
   (try go_wp2_with fail)
   refine hK.out _ _ ?_ (fun hHeld=> ?_)
   ·(try dsimp only);first|exact hk0|exact HX.out.box.cell 0 rfl
   clear hK K
   try go_frame
   refine Qv 9 (fun K hK=> ?_)
   go_simp
   have HP:=HX;refine (On b (W0.heap.size+2) _ v (.slice Ar L.length cr) l L z _ HX.out.cur HX.out.dq.stays (by omega) (Nat.le_refl _) HX.out.dr (fun _=> by omega) (by omega) (by omega) (by omega)).mono ?_;rintro e X2 ⟨r,rfl,hdr,hst,hgo,hcu⟩;obtain ⟨A1,c1,e1, -⟩:=hst.now.b.open_;obtain ⟨A2,c2,e2, -⟩:=Sl.one hst.now.n;obtain ⟨A3,c3,e3, -⟩:=Sl.one hst.now.t;obtain ⟨A4,c4,e4, -⟩:=Sl.one hst.now.k;have HM:=Fd (And.intro hdr (And.intro hst (And.intro hgo hcu)));have HX:=Fd (HX.out.step hgo hcu);clear hdr hst hgo hcu;have HE:=Fd (And.intro e1 (And.intro e2 (And.intro e3 e4)));unfold Jd;rw [e1,e2,e3,e4];clear e1 e2 e3 e4
   (try go_wp2_with fail)
   refine hK.out _ _ ?_ (fun hHeld=> ?_)
   ·(try dsimp only);first|exact hk0|exact HX.out.box.cell 0 rfl
   clear hK K
   try go_frame
   refine Qv 10 (fun K hK=> ?_)
   (try go_simp)
   obtain ⟨X3,hX3⟩:∃V,V=X2.alloc (.cells #[.string r.d.name, .int .i64 r.d.kind, .int .i64 r.d.size, .bool r.d.little, .slice A1 r.d.bytes.length c1, .slice A2 r.d.names.length c2, .slice A3 r.d.tags.length c3, .slice A4 r.d.kids.length c4] 50):=⟨_,rfl⟩;rw [←hX3];have hal:Below X2.heap.size X2 X3:=(by rw [hX3];exact (Below.refl _ _).alloc (Nat.le_refl _) _);have hsl:=Fd (show Sl X3 (X2.heap.size+1) 8 (.slice (some ⟨X2.heap.size,0,none⟩) 1 1) 1 (Qp r) by rw [hX3];exact Pz (xs:=Qp r) (by unfold Qp;rw [HE.out.1,HE.out.2.1,HE.out.2.2.1,HE.out.2.2.2];exact Zr.new X2 _ _) rfl (Nat.lt_succ_self _));have HX:=Fd (HX.out.below hal);have HA:=Fd hal;clear hX3 hal
   refine hK.out _ _ ?_ (fun hHeld=> ?_)
   ·(try dsimp only);first|exact hk0|exact HX.out.box.cell 0 rfl
   clear hK K
   try go_frame
   refine Qv 11 (fun K hK=> ?_)
   have hone:∀u∈Qp r,u.oneCell'=true:=(by intro u hu;unfold Qp at hu;rw [HE.out.1,HE.out.2.1,HE.out.2.2.1,HE.out.2.2.2] at hu;simp only [List.mem_cons,List.not_mem_nil,or_false] at hu;rcases hu with rfl|rfl|rfl|rfl|rfl|rfl|rfl|rfl <;> rfl);refine Qz _ (.tmp 29) (.tmp 38) 24 rfl (W0.heap.size+2) 50 i0 (.agg #[.string ⟨#[]⟩, .int .i64 0, .int .i64 0, .bool false, .slice none 0 0, .slice none 0 0, .slice none 0 0, .slice none 0 0]) 8 136 underlying24 hi hz0 hz1 hz2 rfl (by decide) _ L.length (L.flatMap Qp) rfl (by exact HX.out.dq.row) _ 1 _ (Qp r) rfl (by exact hsl.out) hone (by omega) (by unfold maxLen;omega) (by have:=HX.out.hg;have:=HX.out.box.lt;omega) ?_;intro v2 X6 own2 hg2 hv2;obtain ⟨An,cn,rfl⟩:=Zm own2;have HM:=Fd (HP.out.app HM.out.1 HM.out.2.1 HM.out.2.2.1 HM.out.2.2.2 HA.out own2 hg2 hv2);clear own2 hg2 hv2 hone;have hk0:X6.cell? ⟨w1.heap.size,0,none⟩=some (.slice Ar L.length cr):=HM.out.1.cell 0 rfl;have hf0:=HM.out.1.frozen 0
   refine hK.out _ _ ?_ (fun hHeld=> ?_)
   ·(try dsimp only);first|exact hk0|exact HX.out.box.cell 0 rfl
   clear hK K
   try go_frame
   refine Zs 12 (some 40) hHeld _ ?_;try go_frame
   refine Tf (fun K hK=> ?_)
   (try go_simp)
   refine hK.out _ _ ?_
   clear hK K
   try go_frame
   refine Jt (by kernel_rfl) ?_ _
   obtain ⟨X7,hX7⟩:∃V,V=X6.setCell ⟨w1.heap.size,0,none⟩ (.slice An (L.length+1) cn):=⟨_,rfl⟩
   rw [←hX7]
   have HY:=Fd (by rw [hX7];simpa using HM.out.2:DqS b v l w (W0.heap.size+2) w1.heap.size (.slice An (L++ [r]).length cn) (L++ [r]) X7)
   clear hX7 HM hk0 hf0 HX HP HA hsl HE
   go_wp2
   go_roundw
   case rel=> exact ⟨k+1,_,_,L++ [r],by go_num,by omega,by simp;omega,by simp,HY.out⟩
   case measure=> simp [intOf];omega
  ·obtain rfl:k=3:=by omega
   obtain ⟨W2,hW2⟩:∃V,V=wr:=⟨_,rfl⟩
   rw [←hW2] at hds ⊢
   clear hW2
   have hL9:L.length≤9:=by omega
   have hzg:=hds.box.lt
   have hzb2:=hds.hg
   have hdr:=hds.dr
   have HS2:=Fd hds.dq.stays
   have hlm:(L.map RM.d).length=L.length:=List.length_map ..
   have HDR:=Fd hdr
   have HOK:=Fd (show ∀r∈L,r.d.ok from fun r hr=> hdr.ok (by rw [hlm];omega) _ (List.mem_map_of_mem hr))
   have HSM:=Fd (show ∀r∈L,r.d.small 1048576 from fun r hr=> hdr.small _ (List.mem_map_of_mem hr))
   have hMk:Calls prog 22 #[.pointer (some ⟨b,0,none⟩), .agg #[.slice Ar L.length cr], .int .i64 (L.length - 1:Nat), .int .i64 10] W2 (Rc b v l L (L.length - 1) W2):=
    Il b (W0.heap.size+2) W2.heap.size v _ l L (L.length - 1) 10 W2 hds.cur HS2.out (by omega) (by omega) hdr (by omega) (by omega) (by omega)
   have HMK:=Fd hMk
   have s0:W2.cell? ⟨w1.heap.size,0,none⟩=some (.slice Ar L.length cr):=hds.box.cell 0 rfl
   have hl1w:IntKind.i64.wrap ((L.length:Int) - 1)=((L.length - 1:Nat):Int):=by rw [IntWalk.i64_in _ (by omega)];omega
   have H2:=Fd hds
   clear hMk hdr hds
   go_wp2_with fail
   refine HMK.out.mono ?_
   rintro e w3 ⟨x,rfl,hxv,hxs,hxo,hgo3,hcu3⟩
   obtain ⟨A5,c5,e5⟩:=Zm hxo.own.bytes
   obtain ⟨A6,c6,e6⟩:=Zm hxo.own.row
   unfold Qr
   rw [e5,e6]
   obtain ⟨W4,hW4⟩:∃W4,W4=w3.alloc (.cells #[.int .i64 x.n, .slice A5 x.b.length c5, .slice A6 x.items.length c6] 29):=⟨_,rfl⟩
   have h34:Below w3.heap.size w3 W4:=by rw [hW4];exact (Below.refl _ _).alloc (Nat.le_refl _) _
   have V4:Zr W4 w3.heap.size 29 #[.int .i64 x.n,x.vb,x.vi]:=by rw [hW4,e5,e6];exact Zr.new w3 _ _
   have hz3:=hgo3.size
   have hz4:w3.heap.size < W4.heap.size:=V4.lt
   have hgo24:Qw b W2 W4:=hgo3.trans (Qw.of_below h34)
   have hxo4:=hxo.keep (Xm.of_below h34 0 0) (.inr (Nat.zero_le _))
   have hsb:=sB_bd (k:=L.length - 1) (by omega)
   have HS4:=Fd (HS2.out.go hgo24 (by omega))
   have H4:=Fd (show Gk b v l (.slice Ar L.length cr) L w w1.heap.size w3.heap.size x W4 from
    ⟨hcu3.below h34,H2.out.go.trans hgo24,H2.out.res.go hgo24 (by omega),H2.out.req.go hgo24 (by omega),H2.out.box.go hgo24 (by omega),V4,
      ⟨Nat.le_refl _,fun W' h1 k1=> ⟨((HS4.out.2 W' h1 fun k q1 q2=> k1 k (by omega) (by omega)).more (by omega)),(hxo4.own.stays (lo:=w.heap.size+2) (by omega)).2 W' h1 k1⟩⟩,by omega,hbw,by omega,by omega⟩)
   have HXO:=Fd (And.intro hxo4 hxv)
   have HE5:=Fd (And.intro e5 e6)
   have hPT:Calls prog 50 #[.pointer (some ⟨b,0,none⟩), .agg #[.slice Ar L.length cr], .agg #[.int .i64 x.n, .slice A5 x.b.length c5, .slice A6 x.items.length c6]] W4 (PathE b v l W4):=by
    have:=l18Path_any b _ _ v (.slice Ar L.length cr) l L x W4 H4.out.cur HS4.out (by have:=HS4.out.1;omega) HDR.out hL1 hL9 hxo4.own.rd hxv (by omega)
    unfold Qr at this
    rw [e5,e6] at this
    exact this
   have HPT:=Fd hPT
   have k0:W4.cell? ⟨w1.heap.size,0,none⟩=some (.slice Ar L.length cr):=H4.out.dbox.cell 0 rfl
   have k1:W4.cell? ⟨w3.heap.size,0,none⟩=some (.int .i64 x.n):=H4.out.vbox.cell 0 rfl
   have k2:W4.cell? ⟨w3.heap.size,1,none⟩=some (.slice A5 x.b.length c5):=by rw [←e5];exact H4.out.vbox.cell 1 rfl
   have k3:W4.cell? ⟨w3.heap.size,2,none⟩=some (.slice A6 x.items.length c6):=by rw [←e6];exact H4.out.vbox.cell 2 rfl
   clear hPT hxo hxo4 hgo3 hcu3 h34 V4 hgo24 H2 HMK HS2 e5 e6 s0
   go_upto_region 8 with fail
   rw [←hW4]
   clear hW4
   go_wp2_with fail
   refine HPT.out.mono ?_
   rintro e w5 ⟨⟨S0,rfl,hS0⟩,hg5,hc5⟩
   have H5:=Fd (H4.out.step hg5 hc5)
   have HS5:=Fd (HS4.out.go hg5 (by omega))
   have HX5:=Fd (show Ut x W2.heap.size w3.heap.size w5 from ⟨HXO.out.1.own.keep fun g hg=> hg5.block g (HXO.out.1.own.lt g hg).2 (fun e=> by have e2:g=b:=Option.some.inj e;have:=(HXO.out.1.own.lt g hg).1;omega),HXO.out.1.nd,HXO.out.1.rng⟩)
   clear hg5 hc5 HPT H4 HS4 k0 k1 k2 k3
   go_upto_if 58 with (go_at_call 21;refine (Uc b b v l 4 w5 H5.out.cur (by omega) (by omega)).mono ?_;rintro e w6 ⟨⟨t,rfl⟩,hg6,hzq,hc6⟩)
   have H6:=Fd (H5.out.step hg6 hc6)
   have HS6:=Fd (HS5.out.go hg6 (by omega))
   have HX6:=Fd (show Ut x W2.heap.size w3.heap.size w6 from ⟨HX5.out.own.keep fun g hg=> hg6.block g (HX5.out.own.lt g hg).2 (fun e=> by have e2:g=b:=Option.some.inj e;have:=(HX5.out.own.lt g hg).1;omega),HX5.out.nd,HX5.out.rng⟩)
   clear hzq hg6 hc6 H5 HS5 HX5
   go_cut [11] (fun s11 wx=> ∃S:ByteArray,s11= .string S∧S.size≤4096∧Below w6.heap.size w6 wx)
   case first=>
    cases t with
    |true=>
     go_wp2_with fail
     go_meet
     exact ⟨S0,rfl,hS0,Below.refl _ _⟩
    |false=>
     have hpc:=Mg L HOK.out HSM.out (HDR.out.valid (by rw [hlm];omega) (by rw [hlm];omega)) (L.length - 1) (by omega) (.slice Ar L.length cr) x ⟨#[]⟩ w6.heap.size w6 H6.out.st.now.1 (Nat.le_refl _) HXO.out.2 H6.out.st.now.2 (by omega) (by show 0+_≤_;omega)
     unfold Qr at hpc
     rw [HE5.out.1,HE5.out.2] at hpc
     have HPC:=Fd hpc
     have k0:w6.cell? ⟨w1.heap.size,0,none⟩=some (.slice Ar L.length cr):=H6.out.dbox.cell 0 rfl
     have k1:w6.cell? ⟨w3.heap.size,0,none⟩=some (.int .i64 x.n):=H6.out.vbox.cell 0 rfl
     have k2:w6.cell? ⟨w3.heap.size,1,none⟩=some (.slice A5 x.b.length c5):=by rw [←HE5.out.1];exact H6.out.vbox.cell 1 rfl
     have k3:w6.cell? ⟨w3.heap.size,2,none⟩=some (.slice A6 x.items.length c6):=by rw [←HE5.out.2];exact H6.out.vbox.cell 2 rfl
     clear hpc
     go_wp2_with fail
     refine HPC.out.mono ?_
     rintro e w7 ⟨u,P,rfl,own,hP1,hP2,hPs,bel⟩
     obtain ⟨Ap,cp,rfl,hcp,hmp,hpc⟩:=Sl.one (Sl.of_own own)
     have HPK:=Fd (And.intro hpc hPs)
     have HB7:=Fd bel
     have hzw7:=bel.size
     unfold maxLen at hmp
     clear own hpc hPs bel k0 k1 k2 k3 HPC
     go_wp2
     go_loopw [11,13,14,15,16] (fun s11 i _ _ _ wr=> ∃(k:Nat) (S:ByteArray),k≤P.length∧i= .int .i64 k∧s11= .string S∧S.size≤4096∧Below w7.heap.size w7 wr) (fun _ i _ _ _ _=> P.length - (intOf i).toNat)
     case atStart=> exact ⟨0,S0,by omega,rfl,rfl,hS0,Below.refl _ _⟩
     case round=>
      obtain ⟨k,S,hk,rfl,rfl,hS,hb⟩:=hrel
      have hbs:=Zb hb HB7.out
      by_cases hlt:k < P.length
      ·obtain ⟨bp,op,rfl,hbp,pc⟩:=HPK.out.1 k hlt
       have hps:=HPK.out.2 P[k] (List.getElem_mem hlt)
       have pc:=Zc pc hb hbp
       generalize P[k]=p at*
       have hps':p.size≤4096:=by have e0:ByteArray.size ⟨#[]⟩=0:=rfl;omega
       have HR:=Fd (H6.out.below hbs)
       have hFD:∀W,Below wr.heap.size wr W→Calls prog 10 #[.agg #[.slice Ar L.length cr], .agg #[.int .i64 x.n, .slice A5 x.b.length c5, .slice A6 x.items.length c6], .string p] W (Lz (Jw (L.map RM.d) x.d (Qu Zf p) (Yl Zf p)) W):=fun W hw=> by
        have hst:=(HR.out.below hw).st.now
        have:=Xr (.slice Ar L.length cr) L x p W.heap.size W hst.1 (Nat.le_refl _) HOK.out HSM.out hst.2 (by omega) (by omega)
        unfold Qr at this
        rw [HE5.out.1,HE5.out.2] at this
        exact this
       have hFR:=Iu (D:=L.map RM.d) (x:=x.d) (ok:=Qu Zf p) (S:=Yl Zf p) (by rw [hlm];omega)
       have hFP:=findV_pos (D:=L.map RM.d) (x:=x.d) (ok:=Qu Zf p) (S:=Yl Zf p) (by rw [hlm];omega)
       rw [hlm] at hFR
       generalize Jw (L.map RM.d) x.d (Qu Zf p) (Yl Zf p)=ff at*
       have HFD:=Fd hFD
       have HFP:=Fd (And.intro hFR hFP)
       have k0:wr.cell? ⟨w1.heap.size,0,none⟩=some (.slice Ar L.length cr):=HR.out.dbox.cell 0 rfl
       have k1:wr.cell? ⟨w3.heap.size,0,none⟩=some (.int .i64 x.n):=HR.out.vbox.cell 0 rfl
       have k2:wr.cell? ⟨w3.heap.size,1,none⟩=some (.slice A5 x.b.length c5):=by rw [←HE5.out.1];exact HR.out.vbox.cell 1 rfl
       have k3:wr.cell? ⟨w3.heap.size,2,none⟩=some (.slice A6 x.items.length c6):=by rw [←HE5.out.2];exact HR.out.vbox.cell 2 rfl
       clear hFD hFR hFP
       go_upto_region 14 with fail
       go_cut [14,15,16] (fun s14 s15 s16 wx=> ∃(r:Int) (okb:Bool),s15= .int .i64 r∧s16= .bool okb∧Hid (okb=true→0≤r∧r < L.length)∧Below wr.heap.size wr wx)
       case first=>
        have bq:=(Below.refl wr.heap.size wr).drew
        go_wp2_with fail
        refine wp_region_held_drew (S:=(fun w9=> w9.cell? ⟨w1.heap.size,0,none⟩=some (.slice Ar L.length cr)∧w9.cell? ⟨w3.heap.size,0,none⟩=some (.int .i64 x.n)∧w9.cell? ⟨w3.heap.size,1,none⟩=some (.slice A5 x.b.length c5)∧w9.cell? ⟨w3.heap.size,2,none⟩=some (.slice A6 x.items.length c6)∧w9.cell? ⟨bp,op+k,none⟩=some (.string p))) (by kernel_rfl) ?_ (fun hHeld=> ?_)
        ·(try dsimp only);exact ⟨k0,k1,k2,k3,pc⟩
        refine Za 0 (some 73) hHeld _ ?_;try go_frame
        refine Za 1 (some 74) hHeld _ ?_;try go_frame
        refine Za 2 (some 75) hHeld _ ?_;try go_frame
        refine Za 3 (some 76) hHeld _ ?_;try go_frame
        refine Za 4 (some 77) hHeld _ ?_;try go_frame
        refine Za 5 (some 78) hHeld _ ?_;try go_frame
        refine Ty 6 11 (fun K hK=> ?_) (fun K hK=> ?_)
        ·go_simp
         refine (HFD.out _ bq).mono ?_;rintro e wq ⟨vv,rfl,hov,bel⟩;obtain ⟨A1,c1,A2,c2,rfl⟩:=hov.agg;clear hov;have bq:=Zb bel bq;(try have zB:=zB.below bel)
         (try go_wp2_with fail)
         refine hK.out _ _ ?_ (fun hHeld=> ?_)
         ·(try dsimp only);exact ⟨cell_later bq k0,cell_later bq k1,cell_later bq k2,cell_later bq k3,cell_later bq pc⟩
         clear hK K
         try go_frame
         refine Za 7 (some 72) hHeld _ ?_;try go_frame
         refine Za 8 (some 80) hHeld _ ?_;try go_frame
         refine Za 9 (some 81) hHeld _ ?_;try go_frame
         refine Za 10 (some 82) hHeld _ ?_;try go_frame
         refine Zi 11 (fun K hK=> ?_)
         (try go_simp)
         have hge:=bq.size;first|(have zB:=Zr.new wq 29 #[.int .i64 0, .slice none 0 0, .slice none 0 0];have bq:=bq.alloc bq.size (.cells #[.int .i64 0, .slice none 0 0, .slice none 0 0] 29);generalize wq.alloc (.cells #[.int .i64 0, .slice none 0 0, .slice none 0 0] 29)=wa at*)|(have zB:Zr (wr.alloc (.cells #[.int .i64 0, .slice none 0 0, .slice none 0 0] 29)).drew wr.heap.size 29 #[.int .i64 0, .slice none 0 0, .slice none 0 0]:=Zr.new wr _ _;have bq:Below wr.heap.size wr (wr.alloc (.cells #[.int .i64 0, .slice none 0 0, .slice none 0 0] 29)).drew:=((Below.refl wr.heap.size wr).alloc (Nat.le_refl _) _).drew;generalize (wr.alloc (.cells #[.int .i64 0, .slice none 0 0, .slice none 0 0] 29)).drew=wa at*)
         refine hK.out _ _ ?_ (fun hHeld=> ?_)
         ·(try dsimp only);exact ⟨cell_later bq k0,cell_later bq k1,cell_later bq k2,cell_later bq k3,cell_later bq pc⟩
         clear hK K
         try go_frame
         refine Zi 12 (fun K hK=> ?_)
         (try go_simp)
         have bq:=below_p3 bq hge (.int .i64 ff.1.n) (.slice A1 ff.1.b.length c1) (.slice A2 ff.1.items.length c2);obtain ⟨⟨z0,z1,z2⟩,y0,y1,y2⟩:=zB.c3;go_simp
         refine hK.out _ _ ?_ (fun hHeld=> ?_)
         ·(try dsimp only);exact ⟨cell_later bq k0,cell_later bq k1,cell_later bq k2,cell_later bq k3,cell_later bq pc⟩
         clear hK K
         try go_frame
         refine Za 13 (some 15) hHeld _ ?_;try go_frame
         refine Za 14 (some 16) hHeld _ ?_;try go_frame
         refine wpAnyH_done (by kernel_rfl) ?_ _
         go_wp2_with fail
         go_meet
         exact ⟨ff.2.1,ff.2.2,rfl,rfl,Fd (fun h=> ⟨HFP.out.2 h,HFP.out.1.2⟩),bq⟩
        ·(try go_simp)
         have hge:=bq.size;first|(have zB:=Zr.new wq 29 #[.int .i64 0, .slice none 0 0, .slice none 0 0];have bq:=bq.alloc bq.size (.cells #[.int .i64 0, .slice none 0 0, .slice none 0 0] 29);generalize wq.alloc (.cells #[.int .i64 0, .slice none 0 0, .slice none 0 0] 29)=wa at*)|(have zB:Zr (wr.alloc (.cells #[.int .i64 0, .slice none 0 0, .slice none 0 0] 29)).drew wr.heap.size 29 #[.int .i64 0, .slice none 0 0, .slice none 0 0]:=Zr.new wr _ _;have bq:Below wr.heap.size wr (wr.alloc (.cells #[.int .i64 0, .slice none 0 0, .slice none 0 0] 29)).drew:=((Below.refl wr.heap.size wr).alloc (Nat.le_refl _) _).drew;generalize (wr.alloc (.cells #[.int .i64 0, .slice none 0 0, .slice none 0 0] 29)).drew=wa at*)
         refine hK.out _ _ ?_ (fun hHeld=> ?_)
         ·(try dsimp only);exact ⟨cell_later bq k0,cell_later bq k1,cell_later bq k2,cell_later bq k3,cell_later bq pc⟩
         clear hK K
         try go_frame
         refine Zi 6 (fun K hK=> ?_)
         go_simp
         refine (HFD.out _ bq).mono ?_;rintro e wq ⟨vv,rfl,hov,bel⟩;obtain ⟨A1,c1,A2,c2,rfl⟩:=hov.agg;clear hov;have bq:=Zb bel bq;(try have zB:=zB.below bel)
         (try go_wp2_with fail)
         refine hK.out _ _ ?_ (fun hHeld=> ?_)
         ·(try dsimp only);exact ⟨cell_later bq k0,cell_later bq k1,cell_later bq k2,cell_later bq k3,cell_later bq pc⟩
         clear hK K
         try go_frame
         refine Za 7 (some 72) hHeld _ ?_;try go_frame
         refine Za 8 (some 80) hHeld _ ?_;try go_frame
         refine Za 9 (some 81) hHeld _ ?_;try go_frame
         refine Za 10 (some 82) hHeld _ ?_;try go_frame
         refine Zi 12 (fun K hK=> ?_)
         (try go_simp)
         have bq:=below_p3 bq hge (.int .i64 ff.1.n) (.slice A1 ff.1.b.length c1) (.slice A2 ff.1.items.length c2);obtain ⟨⟨z0,z1,z2⟩,y0,y1,y2⟩:=zB.c3;go_simp
         refine hK.out _ _ ?_ (fun hHeld=> ?_)
         ·(try dsimp only);exact ⟨cell_later bq k0,cell_later bq k1,cell_later bq k2,cell_later bq k3,cell_later bq pc⟩
         clear hK K
         try go_frame
         refine Za 13 (some 15) hHeld _ ?_;try go_frame
         refine Za 14 (some 16) hHeld _ ?_;try go_frame
         refine wpAnyH_done (by kernel_rfl) ?_ _
         go_wp2_with fail
         go_meet
         exact ⟨ff.2.1,ff.2.2,rfl,rfl,Fd (fun h=> ⟨HFP.out.2 h,HFP.out.1.2⟩),bq⟩
       obtain ⟨r,okb,rfl,rfl,hro,bqc⟩:=hcut
       have HBC:=Fd (Zb bqc hb)
       have HC:=Fd (HR.out.below bqc)
       have k0:wc.cell? ⟨w1.heap.size,0,none⟩=some (.slice Ar L.length cr):=HC.out.dbox.cell 0 rfl
       have pc:=cell_later bqc pc
       clear bqc hb hbs HFD HFP HR HPK
       cases okb with
       |false=>
        go_wp2
        go_roundw
        case rel=> exact ⟨k+1,S,by omega,by go_num,rfl,hS,HBC.out⟩
        case measure=> simp [intOf];omega
       |true=>
        obtain ⟨hr0,hrL⟩:=hro.out rfl
        obtain ⟨q,rfl⟩:=Int.eq_ofNat_of_zero_le hr0
        have hqL:q < L.length:=by omega
        obtain ⟨bR,oR,_,_,_,_,_,_,_,_,rfl, -, -, -, -, -, -, -, -, -,hrc⟩:=Zx HC.out.st.now.1 q hqL
        obtain ⟨-,q1, -⟩:=hrc wc fun _ _ _=> rfl
        clear hro hrc
        by_cases hkk:L[q].d.kind=Kd
        ·rw [hkk] at q1
         go_wp2
         go_roundw
         case rel=> exact ⟨k+1,p,by omega,by go_num,rfl,hps',HBC.out⟩
         case measure=> simp [intOf];omega
        ·generalize L[q].d.kind=kq at*
         have hke:(kq==Kd)=false:=by simp [hkk]
         go_wp2
         go_roundw
         case rel=> exact ⟨k+1,S,by omega,by go_num,rfl,hS,HBC.out⟩
         case measure=> simp [intOf];omega
      ·obtain rfl:k=P.length:=by omega
       have HBE:=Fd hbs
       clear hb hbs
       go_wp2
       go_meet
       exact ⟨S,rfl,hS,HBE.out⟩
   obtain ⟨S,rfl,hS,bqc⟩:=hcut
   have H7:=Fd (H6.out.below bqc)
   have HS7:=Fd (HS6.out.below bqc)
   have HX7:=Fd (show Ut x W2.heap.size w3.heap.size wc from ⟨HX6.out.own.keep fun g hg=> bqc.block g (HX6.out.own.lt g hg).2,HX6.out.nd,HX6.out.rng⟩)
   have hz6:=bqc.size
   clear bqc H6 HS6 HX6
   go_upto_if 99 with (go_at_call 21;refine (Uc b b v l 12 wc H7.out.cur (by omega) (by omega)).mono ?_;rintro e w8 ⟨⟨t2,rfl⟩,hg6,hzq,hc6⟩)
   have H8:=Fd (H7.out.step hg6 hc6)
   have HS8:=Fd (HS7.out.go hg6 (by omega))
   have HX8:=Fd (show Ut x W2.heap.size w3.heap.size w8 from ⟨HX7.out.own.keep fun g hg=> hg6.block g (HX7.out.own.lt g hg).2 (fun e=> by have e2:g=b:=Option.some.inj e;have:=(HX7.out.own.lt g hg).1;omega),HX7.out.nd,HX7.out.rng⟩)
   clear hzq hg6 hc6 H7 HS7 HX7
   go_cut [11] (fun s11 wx=> ∃z:VM,s11= .string S∧Hid (Gk b v l (.slice Ar L.length cr) L w w1.heap.size w3.heap.size z wx))
   case first=>
    cases t2 with
    |false=>
     go_wp2_with fail
     go_meet
     exact ⟨x,rfl,H8⟩
    |true=>
     have hBN:=l9Bent_any b v l x W2.heap.size w8 H8.out.cur HX8.out.own HX8.out.nd (by omega) (by have:=H8.out.vbox.lt;omega) (by have:=H8.out.size;omega)
     unfold Qr at hBN
     rw [HE5.out.1,HE5.out.2] at hBN
     have HBN:=Fd hBN
     have k1:w8.cell? ⟨w3.heap.size,0,none⟩=some (.int .i64 x.n):=H8.out.vbox.cell 0 rfl
     have k2:w8.cell? ⟨w3.heap.size,1,none⟩=some (.slice A5 x.b.length c5):=by rw [←HE5.out.1];exact H8.out.vbox.cell 1 rfl
     have k3:w8.cell? ⟨w3.heap.size,2,none⟩=some (.slice A6 x.items.length c6):=by rw [←HE5.out.2];exact H8.out.vbox.cell 2 rfl
     clear hBN
     go_wp2_with fail
     refine HBN.out.mono ?_
     rintro e w7 ⟨z,rfl,hzs,hzr,hzo,hzc⟩
     obtain ⟨A9,c9,e9, -⟩:=hzr.now.bytes.open_
     obtain ⟨A0,c0,e0, -⟩:=hzr.now.its.open_
     have HB7:=Fd (H8.out.bent (x':=z) HS8.out (by omega) (by omega) (by omega) (by omega) HX8.out (by omega) (by omega) hzr hzo hzc)
     unfold Qr
     rw [e9,e0]
     have HE0:=Fd (And.intro e9 e0)
     clear k1 k2 k3 hzs hzr hzo hzc e9 e0
     obtain ⟨⟨k1,k2,k3⟩,kf1,kf2,kf3⟩:=Zr.c3 HB7.out.1
     go_wp2_with fail
     go_meet
     exact ⟨z,rfl,Fd (by rw [←HE0.out.1,←HE0.out.2];exact HB7.out.2)⟩
   obtain ⟨z,rfl,HZ⟩:=hcut
   obtain ⟨W9,hW9⟩:∃V,V=wc:=⟨_,rfl⟩
   rw [←hW9] at HZ ⊢
   clear hW9 H8 HS8 HX8
   skip
   skip
   have hF:=Xr (.slice Ar L.length cr) L z S W9.heap.size W9 HZ.out.st.now.1 (Nat.le_refl _) HOK.out HSM.out HZ.out.st.now.2 (by have:=HZ.out.size;omega) (by omega)
   obtain ⟨A7,c7,e7, -⟩:=HZ.out.st.now.2.bytes.open_
   obtain ⟨A8,c8,e8, -⟩:=HZ.out.st.now.2.its.open_
   unfold Qr at hF
   rw [e7,e8] at hF
   have hFR:=Iu (D:=L.map RM.d) (x:=z.d) (ok:=Qu Zf S) (S:=Yl Zf S) (by rw [hlm];omega)
   rw [hlm] at hFR
   generalize Jw (L.map RM.d) z.d (Qu Zf S) (Yl Zf S)=ff at*
   have HF:=Fd hF
   have HFR:=Fd hFR
   have HE9:=Fd (And.intro e7 e8)
   have k0:W9.cell? ⟨w1.heap.size,0,none⟩=some (.slice Ar L.length cr):=HZ.out.dbox.cell 0 rfl
   have k1:W9.cell? ⟨w3.heap.size,0,none⟩=some (.int .i64 z.n):=HZ.out.vbox.cell 0 rfl
   have k2:W9.cell? ⟨w3.heap.size,1,none⟩=some (.slice A7 z.b.length c7):=by rw [←e7];exact HZ.out.vbox.cell 1 rfl
   have k3:W9.cell? ⟨w3.heap.size,2,none⟩=some (.slice A8 z.items.length c8):=by rw [←e8];exact HZ.out.vbox.cell 2 rfl
   clear hF hFR e7 e8
   go_wp2_with fail
   refine HF.out.mono ?_
   rintro e w8 ⟨vv,rfl,hov,bel⟩
   obtain ⟨A1,c1,A2,c2,rfl⟩:=hov.agg
   obtain ⟨yn,hyn⟩:∃yn:Int,yn=ff.1.n:=⟨_,rfl⟩
   obtain ⟨W8,hW8⟩:∃W8,W8=w8.alloc (.cells #[.int .i64 ff.1.n, .slice A1 ff.1.b.length c1, .slice A2 ff.1.items.length c2] 29):=⟨_,rfl⟩
   have HY:=Fd (by rw [hW8];exact ((HZ.out.below bel).alloc _).drew:Gk b v l (.slice Ar L.length cr) L w w1.heap.size w3.heap.size z W8.drew)
   have k0:W8.cell? ⟨w1.heap.size,0,none⟩=some (.slice Ar L.length cr):=HY.out.dbox.cell 0 rfl
   have k1:W8.cell? ⟨w3.heap.size,0,none⟩=some (.int .i64 z.n):=HY.out.vbox.cell 0 rfl
   have k2:W8.cell? ⟨w3.heap.size,1,none⟩=some (.slice A7 z.b.length c7):=by rw [←HE9.out.1];exact HY.out.vbox.cell 1 rfl
   have k3:W8.cell? ⟨w3.heap.size,2,none⟩=some (.slice A8 z.items.length c8):=by rw [←HE9.out.2];exact HY.out.vbox.cell 2 rfl
   have r0:W8.cell? ⟨w.heap.size,0,none⟩=some (.slice none 0 0):=HY.out.res.cell 0 rfl
   have rf:W8.frozen? ⟨w.heap.size,0,none⟩=false:=HY.out.res.frozen 0
   obtain ⟨⟨p0,p1,p2⟩,g0,g1,g2⟩:=HY.out.req.c3
   clear hov bel HZ HF
   go_wp2_with fail
   rw [←hW8]
   clear hW8 hyn
   refine wp_region_held_drew (S:=(fun w9=> w9.cell? ⟨w1.heap.size,0,none⟩=some (.slice Ar L.length cr)∧w9.cell? ⟨w3.heap.size,0,none⟩=some (.int .i64 z.n)∧w9.cell? ⟨w3.heap.size,1,none⟩=some (.slice A7 z.b.length c7)∧w9.cell? ⟨w3.heap.size,2,none⟩=some (.slice A8 z.items.length c8))) (by kernel_rfl) ?_ (fun hHeld=> ?_)
   ·(try dsimp only);exact ⟨k0,k1,k2,k3⟩
   refine Za 0 (some 111) hHeld _ ?_;try go_frame
   refine Za 1 (some 112) hHeld _ ?_;try go_frame
   refine Za 2 (some 113) hHeld _ ?_;try go_frame
   refine Za 3 (some 114) hHeld _ ?_;try go_frame
   refine Zi 4 (fun K hK=> ?_)
   (try go_simp)
   obtain ⟨Y1,hY1⟩:∃V,V=(W8.setCell ⟨w.heap.size,0,none⟩ (.slice Ar L.length cr)).drew:=⟨_,rfl⟩;rw [←hY1];have kd:Zr Y1 w1.heap.size 26 #[.slice Ar L.length cr]:=(by rw [hY1];exact HY.out.dbox.other (by omega) _);have kv:Zr Y1 w3.heap.size 29 #[.int .i64 z.n,z.vb,z.vi]:=(by rw [hY1];exact HY.out.vbox.other (by omega) _);have kq:Zr Y1 (w.heap.size+1) 29 #[.int .i64 0, .slice none 0 0, .slice none 0 0]:=(by rw [hY1];exact HY.out.req.other (by omega) _);have HY1:=Fd hY1;clear hY1 k0 k1 k2 k3 p0 p1 p2 g0 g1 g2;have k0:Y1.cell? ⟨w1.heap.size,0,none⟩=some (.slice Ar L.length cr):=kd.cell 0 rfl;have k1:Y1.cell? ⟨w3.heap.size,0,none⟩=some (.int .i64 z.n):=kv.cell 0 rfl;have k2:Y1.cell? ⟨w3.heap.size,1,none⟩=some (.slice A7 z.b.length c7):=(by rw [←HE9.out.1];exact kv.cell 1 rfl);have k3:Y1.cell? ⟨w3.heap.size,2,none⟩=some (.slice A8 z.items.length c8):=(by rw [←HE9.out.2];exact kv.cell 2 rfl);obtain ⟨⟨p0,p1,p2⟩,g0,g1,g2⟩:=kq.c3
   refine hK.out _ _ ?_ (fun hHeld=> ?_)
   ·(try dsimp only);exact ⟨k0,k1,k2,k3⟩
   clear hK K
   try go_frame
   refine Zi 5 (fun K hK=> ?_)
   (try go_simp)
   obtain ⟨Y2,hY2⟩:∃V,V=((Y1.setCell ⟨w.heap.size+1,0,none⟩ (.int .i64 z.n)).setCell ⟨w.heap.size+1,1,none⟩ (.slice A7 z.b.length c7)).setCell ⟨w.heap.size+1,2,none⟩ (.slice A8 z.items.length c8):=⟨_,rfl⟩;rw [←hY2];have kd2:Zr Y2 w1.heap.size 26 #[.slice Ar L.length cr]:=(by rw [hY2];exact ((kd.other (by omega) _).other (by omega) _).other (by omega) _);have kv2:Zr Y2 w3.heap.size 29 #[.int .i64 z.n,z.vb,z.vi]:=(by rw [hY2];exact ((kv.other (by omega) _).other (by omega) _).other (by omega) _);have HY2:=Fd hY2;clear hY2 k0 k1 k2 k3 p0 p1 p2 g0 g1 g2;have k0:Y2.cell? ⟨w1.heap.size,0,none⟩=some (.slice Ar L.length cr):=kd2.cell 0 rfl;have k1:Y2.cell? ⟨w3.heap.size,0,none⟩=some (.int .i64 z.n):=kv2.cell 0 rfl;have k2:Y2.cell? ⟨w3.heap.size,1,none⟩=some (.slice A7 z.b.length c7):=(by rw [←HE9.out.1];exact kv2.cell 1 rfl);have k3:Y2.cell? ⟨w3.heap.size,2,none⟩=some (.slice A8 z.items.length c8):=(by rw [←HE9.out.2];exact kv2.cell 2 rfl)
   refine hK.out _ _ ?_ (fun hHeld=> ?_)
   ·(try dsimp only);exact ⟨k0,k1,k2,k3⟩
   clear hK K
   try go_frame
   refine Za 6 (some 6) hHeld _ ?_;try go_frame
   refine Za 7 (some 7) hHeld _ ?_;try go_frame
   refine wpAnyH_done (by kernel_rfl) ?_ _
   obtain ⟨Wf,hWf,hR,hQ,hgo,hcu,hst⟩:=HY.out.fin
   rw [HE9.out.1,HE9.out.2] at hWf hQ
   have hYf:Y2=Wf:=by rw [HY2.out,HY1.out,hWf];rfl
   rw [hYf]
   have t0:Wf.cell? ⟨w.heap.size,0,none⟩=some (.slice Ar L.length cr):=hR.cell 0 rfl
   obtain ⟨⟨t1,t2,t3⟩, -⟩:=hQ.c3
   clear k0 k1 k2 k3 r0 rf kd kv kq kd2 kv2 hYf hWf hHeld
   go_wp2
   exact bodyPost_ret (v:= .tuple #[.agg #[.slice Ar L.length cr], .agg #[.int .i64 z.n, .slice A7 z.b.length c7, .slice A8 z.items.length c8], .string S, .int .i64 ff.2.1]) (by simp [results,results20,go_sem,t0,t1,t2,t3]) rfl
    ⟨Ar,cr,L,z,S,ff.2.1,by unfold Qr;rw [HE9.out.1,HE9.out.2],HDR.out,hL1,by omega,HY.out.size,hS,HFR.out,hst,hgo,hcu⟩
structure DrS (vD:Value) (L:List RM) (w:World) (gd gv gy:Nat) (x y:VM) (W:World):Prop where
 bel:Below w.heap.size w W
 res:Zr W w.heap.size 26 #[.slice none 0 0]
 req:Zr W (w.heap.size+1) 29 #[.int .i64 0, .slice none 0 0, .slice none 0 0]
 rey:Zr W (w.heap.size+2) 29 #[.int .i64 0, .slice none 0 0, .slice none 0 0]
 dbox:Zr W gd 26 #[vD]
 vbox:Zr W gv 29 #[.int .i64 x.n,x.vb,x.vi]
 ybox:Zr W gy 29 #[.int .i64 y.n,y.vb,y.vi]
 st:Zz (w.heap.size+3) W.heap.size (fun W'=> Jc W' W.heap.size vD L∧x.rd W' W.heap.size∧y.rd W' W.heap.size) W
 hd:w.heap.size+3≤gd
 hv:w.heap.size+3≤gv
 hy:w.heap.size+3≤gy
theorem Yz {B:Nat} {w W:World} (h:Below B w W) {q j:Nat} (hq:B≤q) (u:Value):Below B w (W.setCell ⟨q,j,none⟩ u):=h.setCell (p:=⟨q,j,none⟩) hq u
theorem DrS.fin {vD:Value} {L:List RM} {w W:World} {gd gv gy:Nat} {x y:VM} (h:DrS vD L w gd gv gy x y W):
  ∃Wf,Wf=((((((W.setCell ⟨w.heap.size,0,none⟩ vD).setCell ⟨w.heap.size+1,0,none⟩ (.int .i64 x.n)).setCell ⟨w.heap.size+1,1,none⟩ x.vb).setCell ⟨w.heap.size+1,2,none⟩ x.vi).setCell ⟨w.heap.size+2,0,none⟩ (.int .i64 y.n)).setCell ⟨w.heap.size+2,1,none⟩ y.vb).setCell ⟨w.heap.size+2,2,none⟩ y.vi∧
   Zr Wf w.heap.size 26 #[vD]∧Zr Wf (w.heap.size+1) 29 #[.int .i64 x.n,x.vb,x.vi]∧Zr Wf (w.heap.size+2) 29 #[.int .i64 y.n,y.vb,y.vi]∧Below w.heap.size w Wf∧Jc Wf Wf.heap.size vD L∧x.rd Wf Wf.heap.size∧y.rd Wf Wf.heap.size:=by
 refine ⟨_,rfl,?_,?_,?_,?_,?_⟩
 ·have:=((((((h.res.set 0 vD).other (q:=w.heap.size+1) (j:=0) (by omega) (.int .i64 x.n)).other (q:=w.heap.size+1) (j:=1) (by omega) x.vb).other (q:=w.heap.size+1) (j:=2) (by omega) x.vi).other (q:=w.heap.size+2) (j:=0) (by omega) (.int .i64 y.n)).other (q:=w.heap.size+2) (j:=1) (by omega) y.vb).other (q:=w.heap.size+2) (j:=2) (by omega) y.vi
  simpa using this
 ·have:=((((((h.req.other (q:=w.heap.size) (j:=0) (by omega) vD).set 0 (.int .i64 x.n)).set 1 x.vb).set 2 x.vi).other (q:=w.heap.size+2) (j:=0) (by omega) (.int .i64 y.n)).other (q:=w.heap.size+2) (j:=1) (by omega) y.vb).other (q:=w.heap.size+2) (j:=2) (by omega) y.vi
  simpa using this
 ·have:=((((((h.rey.other (q:=w.heap.size) (j:=0) (by omega) vD).other (q:=w.heap.size+1) (j:=0) (by omega) (.int .i64 x.n)).other (q:=w.heap.size+1) (j:=1) (by omega) x.vb).other (q:=w.heap.size+1) (j:=2) (by omega) x.vi).set 0 (.int .i64 y.n)).set 1 y.vb).set 2 y.vi
  simpa using this
 ·exact Yz (Yz (Yz (Yz (Yz (Yz (Yz h.bel (Nat.le_refl _) _) (by omega) _) (by omega) _) (by omega) _) (by omega) _) (by omega) _) (by omega) _
 ·have:=h.st.2 (((((((W.setCell ⟨w.heap.size,0,none⟩ vD).setCell ⟨w.heap.size+1,0,none⟩ (.int .i64 x.n)).setCell ⟨w.heap.size+1,1,none⟩ x.vb).setCell ⟨w.heap.size+1,2,none⟩ x.vi).setCell ⟨w.heap.size+2,0,none⟩ (.int .i64 y.n)).setCell ⟨w.heap.size+2,1,none⟩ y.vb).setCell ⟨w.heap.size+2,2,none⟩ y.vi) (by simp [World.setCell]) fun k h1 h2=> by
   rw [Below.heap_setCell _ _ _ k (show k≠w.heap.size+2 by omega),Below.heap_setCell _ _ _ k (show k≠w.heap.size+2 by omega),Below.heap_setCell _ _ _ k (show k≠w.heap.size+2 by omega),Below.heap_setCell _ _ _ k (show k≠w.heap.size+1 by omega),Below.heap_setCell _ _ _ k (show k≠w.heap.size+1 by omega),Below.heap_setCell _ _ _ k (show k≠w.heap.size+1 by omega),Below.heap_setCell _ _ _ k (show k≠w.heap.size by omega)]
  have hsz:(((((((W.setCell ⟨w.heap.size,0,none⟩ vD).setCell ⟨w.heap.size+1,0,none⟩ (.int .i64 x.n)).setCell ⟨w.heap.size+1,1,none⟩ x.vb).setCell ⟨w.heap.size+1,2,none⟩ x.vi).setCell ⟨w.heap.size+2,0,none⟩ (.int .i64 y.n)).setCell ⟨w.heap.size+2,1,none⟩ y.vb).setCell ⟨w.heap.size+2,2,none⟩ y.vi).heap.size=W.heap.size:=by simp [World.setCell]
  rw [hsz]
  exact this
def DrawIE (w:World) (e:Ending) (w':World):Prop:=
 ∃(A:Option Addr) (c:Nat) (L:List RM) (x y:VM) (S:ByteArray) (a:Int),e= .returned (.tuple #[.agg #[.slice A L.length c],Qr x, .string S, .int .i64 a,Qr y])∧Tb (L.map RM.d)∧1≤L.length∧L.length≤9∧x.d.size≤589825∧y.d.size≤589824∧S.size≤4096∧(-1≤a∧a≤4)∧
  Jc w' w'.heap.size (.slice A L.length c) L∧x.rd w' w'.heap.size∧y.rd w' w'.heap.size∧Below w.heap.size w w'
theorem rowRule {W:World} {B bR oR c:Nat} {L:List RM} (h:Jc W B (.slice (some ⟨bR,oR,none⟩) L.length c) L) (k:Nat) (hk:k < L.length):W.cell? ⟨bR,oR+k*8+1,none⟩=some (.int .i64 L[k].d.kind)∧W.cell? ⟨bR,oR+k*8+7,none⟩=some L[k].vk:=by
 obtain ⟨b,off,A1,c1,A2,c2,A3,c3,A4,c4,hA, -, -, -, -,e4, -, -, -, -,hc⟩:=Zx h k hk
 injection hA with hA
 injection hA with h1 h2
 subst h1 h2
 obtain ⟨-,r1, -, -, -, -, -,r7⟩:=hc W fun _ _ _=> rfl
 exact ⟨r1,by rw [e4];exact r7⟩
theorem Iw (v:Value) (l:List UInt8) (w:World) (h:Xq w w.heap.size v l) (hl:l.length≤1048576):Calls prog 6 #[v] w (DrawIE w):=by
 obtain ⟨W0,hW0⟩:∃W0,W0=((w.alloc (.cells #[.slice none 0 0] 26)).alloc (.cells #[.int .i64 0, .slice none 0 0, .slice none 0 0] 29)).alloc (.cells #[.int .i64 0, .slice none 0 0, .slice none 0 0] 29):=⟨_,rfl⟩
 have hb0:Below w.heap.size w W0:=by rw [hW0];exact (((Below.refl w.heap.size w).alloc (Nat.le_refl _) _).alloc (by simp) _).alloc (by simp;omega) _
 have hz0:w.heap.size+3≤W0.heap.size:=by rw [hW0];simp
 have R0:Zr W0 w.heap.size 26 #[.slice none 0 0]:=by rw [hW0];exact ((Zr.new w _ _).alloc _).alloc _
 have Q0:Zr W0 (w.heap.size+1) 29 #[.int .i64 0, .slice none 0 0, .slice none 0 0]:=by rw [hW0];have:=(Zr.new (w.alloc (.cells #[.slice none 0 0] 26)) 29 #[.int .i64 0, .slice none 0 0, .slice none 0 0]).alloc (.cells #[.int .i64 0, .slice none 0 0, .slice none 0 0] 29);simpa using this
 have Y0:Zr W0 (w.heap.size+2) 29 #[.int .i64 0, .slice none 0 0, .slice none 0 0]:=by rw [hW0];have:=Zr.new ((w.alloc (.cells #[.slice none 0 0] 26)).alloc (.cells #[.int .i64 0, .slice none 0 0, .slice none 0 0] 29)) 29 #[.int .i64 0, .slice none 0 0, .slice none 0 0];simpa using this
 have H0:=Fd (And.intro (h.below hb0) (And.intro hb0 (And.intro R0 (And.intro Q0 Y0))))
 clear h hb0 R0 Q0 Y0
 go_enter func6,ntmps6
 go_upto_region 1 with fail
 rw [←hW0]
 clear hW0
 go_wp2_with fail
 refine (l1New_any v l w.heap.size W0 H0.out.1 hl).mono ?_
 rintro e w1 ⟨rfl,xc,rfl⟩
 obtain ⟨W1,hW1⟩:∃W1,W1=W0.alloc (.cells #[v, .int .i64 0, .int .i64 xc] 72):=⟨_,rfl⟩
 rw [←hW1]
 have h01:Below W0.heap.size W0 W1:=by rw [hW1];exact (Below.refl _ _).alloc (Nat.le_refl _) _
 have hc1:Qm W0.heap.size v l W1:=by rw [hW1];exact ⟨(Xq.more (B':=W0.heap.size) H0.out.1 (by omega)).below ((Below.refl _ _).alloc (Nat.le_refl _) _),cur_new⟩
 have H1:=Fd (And.intro hc1 (And.intro (Zb h01 H0.out.2.1) (And.intro (H0.out.2.2.1.below h01) (And.intro (H0.out.2.2.2.1.below h01) (H0.out.2.2.2.2.below h01)))))
 have hz1:W0.heap.size < W1.heap.size:=hc1.lt
 clear hW1 h01 hc1 H0
 go_wp2_with fail
 refine (l22One_k W0.heap.size v l 5 W1 H1.out.1 (by omega) (by omega)).mono ?_
 rintro e w2 ⟨A,c,L,x,S,r,rfl,hdr,hl1,hl9,hxs,hSs,⟨hr1,hr2⟩,hst,hgo,hcu⟩
 obtain ⟨A5,c5,e5, -⟩:=hst.now.2.bytes.open_
 obtain ⟨A6,c6,e6, -⟩:=hst.now.2.its.open_
 unfold Qr
 rw [e5,e6]
 obtain ⟨W3,hW3⟩:∃W3,W3=(w2.alloc (.cells #[.slice A L.length c] 26)).alloc (.cells #[.int .i64 x.n, .slice A5 x.b.length c5, .slice A6 x.items.length c6] 29):=⟨_,rfl⟩
 have h23:Below w2.heap.size w2 W3:=by rw [hW3];exact ((Below.refl w2.heap.size w2).alloc (Nat.le_refl _) _).alloc (by simp) _
 have D3:Zr W3 w2.heap.size 26 #[.slice A L.length c]:=by rw [hW3];exact (Zr.new w2 _ _).alloc _
 have V3:Zr W3 (w2.heap.size+1) 29 #[.int .i64 x.n,x.vb,x.vi]:=by rw [hW3,e5,e6];have:=Zr.new (w2.alloc (.cells #[.slice A L.length c] 26)) 29 #[.int .i64 x.n, .slice A5 x.b.length c5, .slice A6 x.items.length c6];simpa using this
 have hz2:=hgo.size
 have hgo3:=hgo.trans (Qw.of_below h23)
 have H3:=Fd (And.intro (hcu.below h23) (And.intro (hgo3.below H1.out.2.1 (by have:=H1.out.2.1.size;omega) (by omega)) (And.intro (H1.out.2.2.1.go hgo3 (by omega)) (And.intro (H1.out.2.2.2.1.go hgo3 (by omega)) (And.intro (H1.out.2.2.2.2.go hgo3 (by omega)) (And.intro D3 (And.intro V3 (hst.below h23))))))))
 have hz3:w2.heap.size+1 < W3.heap.size:=V3.lt
 have HDR:=Fd hdr
 have HE5:=Fd (And.intro e5 e6)
 have hlm:(L.map RM.d).length=L.length:=List.length_map ..
 clear hst hgo hcu hgo3 h23 D3 V3 H1 hdr e5 e6
 obtain ⟨W5,hW5⟩:∃V,V=W3.alloc (.cells #[.int .i64 0, .slice none 0 0, .slice none 0 0] 29):=⟨_,rfl⟩
 have h45:Below W3.heap.size W3 W5:=by rw [hW5];exact (Below.refl _ _).alloc (Nat.le_refl _) _
 have hgo5:Qw W0.heap.size W3 W5:=Qw.of_below h45
 have Y5:Zr W5 W3.heap.size 29 #[.int .i64 0, .slice none 0 0, .slice none 0 0]:=by rw [hW5];exact Zr.new W3 _ _
 have hz5:W3.heap.size < W5.heap.size:=Y5.lt
 have HC5:=Fd (H3.out.1.below h45)
 have HS5:=Fd (H3.out.2.2.2.2.2.2.2.go hgo5 (by omega))
 have H5:=Fd (And.intro (hgo5.below H3.out.2.1 (by have:=H3.out.2.1.size;omega) (by omega)) (And.intro (H3.out.2.2.1.go hgo5 (by omega)) (And.intro (H3.out.2.2.2.1.go hgo5 (by omega)) (And.intro (H3.out.2.2.2.2.1.go hgo5 (by omega)) (And.intro (H3.out.2.2.2.2.2.1.go hgo5 (by omega)) (And.intro (H3.out.2.2.2.2.2.2.1.go hgo5 (by omega)) Y5))))))
 have hN:∀y:VM,y= .mk 0 [] (.slice none 0 0) (.slice none 0 0) []→∀W,Qw W0.heap.size W5 W→DrS (.slice A L.length c) L w w2.heap.size (w2.heap.size+1) W3.heap.size x y W:=fun y hy W hg=> by
  subst hy
  have hgs:=hg.size
  refine ⟨hg.below H5.out.1 (by have:=H5.out.1.size;omega) (by omega),H5.out.2.1.go hg (by omega),H5.out.2.2.1.go hg (by omega),H5.out.2.2.2.1.go hg (by omega),H5.out.2.2.2.2.1.go hg (by omega),H5.out.2.2.2.2.2.1.go hg (by omega),H5.out.2.2.2.2.2.2.go hg (by omega),⟨Nat.le_refl _,fun W' h1 k1=> ?_⟩,by omega,by omega,by omega⟩
  have:=(HS5.out.go hg (by omega)).2 W' h1 fun k q1 q2=> k1 k (by omega) (by omega)
  exact ⟨this.1.more (by omega),this.2.more (by omega), .mk (Sl.nil _ _ _) (Sl.nil _ _ _) (by simp)⟩
 have HN:=Fd hN
 clear h45 hgo5 Y5 hN H3
 go_upto_region 3 with fail
 rw [←hW3]
 clear hW3
 go_upto_region 4 with fail
 rw [←hW5]
 clear hW5
 go_cut [38] (fun s38 wx=> ∃t:Bool,s38= .bool t∧Hid (t=true→0≤r∧∃k:Nat,∃h:k < L.length,r=k∧L[k].d.kind=5)∧Qw W0.heap.size W5 wx∧Qm W0.heap.size v l wx)
 case first=>
  by_cases hr0:0≤r
  ·obtain ⟨k,rfl⟩:=Int.eq_ofNat_of_zero_le hr0
   have hkl:k < L.length:=by omega
   have hdk:decide ((0:Int)≤(k:Int))=true:=decide_eq_true hr0
   have hsd:=HS5.out.now.1
   obtain ⟨bR,oR,_,_,_,_,_,_,_,_,rfl, -⟩:=Zx hsd k hkl
   have q1:=(rowRule hsd k hkl).1
   have k0:W5.cell? ⟨w2.heap.size,0,none⟩=some (.slice (some ⟨bR,oR,none⟩) L.length c):=H5.out.2.2.2.2.1.cell 0 rfl
   clear hsd
   by_cases hkk:L[k].d.kind=5
   ·have HKK:=Fd (show ∃k':Nat,∃h:k' < L.length,(k:Int)=k'∧L[k'].d.kind=5 from ⟨k,hkl,rfl,hkk⟩)
    rw [hkk] at q1
    clear hkk
    go_wp2_with fail
    refine (Uc W0.heap.size W0.heap.size v l 6 W5 HC5.out (by omega) (by omega)).mono ?_
    rintro e w6 ⟨⟨t,rfl⟩,hg6,hzq,hc6⟩
    have HG6:=Fd (And.intro hg6 hc6)
    clear hzq hg6 hc6
    go_wp2
    go_meet
    exact ⟨_,rfl,Fd fun _=> ⟨hr0,HKK.out⟩,HG6.out⟩
   ·generalize L[k].d.kind=kq at*
    have hke:(kq==5)=false:=by simp [hkk]
    go_wp2
    go_meet
    exact ⟨false,rfl,Fd fun e=> (by cases e),Qw.of_below (Below.refl _ _),HC5.out⟩
  ·have hdk:decide ((0:Int)≤r)=false:=decide_eq_false hr0
   go_wp2
   go_meet
   exact ⟨false,rfl,Fd fun e=> (by cases e),Qw.of_below (Below.refl _ _),HC5.out⟩
 obtain ⟨t,rfl,hkt,hg6,hc6⟩:=hcut
 obtain ⟨w6,hw6⟩:∃V,V=wc:=⟨_,rfl⟩
 rw [←hw6] at hg6 hc6 ⊢
 clear hw6
 have HG6:=Fd hg6
 have hz6:=hg6.size
 have HC6:=Fd hc6
 clear hg6 hc6
 go_upto_if 38 with fail
 go_cut [] (fun wx=> ∃y:VM,y.d.size≤589824∧Hid (∀W,Qw W0.heap.size wx W→DrS (.slice A L.length c) L w w2.heap.size (w2.heap.size+1) W3.heap.size x y W)∧Qm W0.heap.size v l wx)
 case first=>
  cases t with
  |false=>
   go_wp2
   go_meet
   exact ⟨.mk 0 [] (.slice none 0 0) (.slice none 0 0) [],by rw [VM.d_mk,Zt.size_mk];simp [Zt.sizes_nil],Fd fun W hg=> HN.out _ rfl W (HG6.out.trans hg),HC6.out⟩
  |true=>
   obtain ⟨hr0,k,hkl,rfl,hkd⟩:=hkt.out rfl
   have RU:=HDR.out.ruK (by rw [hlm];omega) (show k < (L.map RM.d).length by rw [hlm];exact hkl)
   have hge:(L.map RM.d)[k]'(by rw [hlm];exact hkl)=L[k].d:=List.getElem_map ..
   obtain ⟨hk2', -⟩:=val5 RU (by rw [hge];exact hkd)
   obtain ⟨q,hq0,hq⟩:=RU.kidN (j:=1) hk2'
   simp only [hge] at hk2' hq0
   have hsa:Zz W1.heap.size w2.heap.size (fun W=> Jc W w2.heap.size (.slice A L.length c) L) w6:=(HS5.out.go HG6.out (by omega)).imp fun _ h=> h.1
   obtain ⟨bR,oR,A1,c1,A2,c2,A3,c3,A4,c4,rfl, -, -, -, -,e4, -⟩:=Zx hsa.now k hkl
   obtain ⟨bk,fk,rfl, -,hkc⟩:=kidS hsa hkl e4 hk2'
   rw [hq0] at hkc
   have HKQ:=Fd (show ∀W,Zz W1.heap.size w2.heap.size (fun W=> Jc W w2.heap.size (.slice (some ⟨bR,oR,none⟩) L.length c) L) W→W.cell? ⟨bR,oR+k*8+7,none⟩=some (.slice (some ⟨bk,fk,none⟩) L[k].d.kids.length c4)∧W.cell? ⟨bk,fk+1,none⟩=some (.int .i64 q) from fun W hW=> ⟨by rw [←e4];exact (rowRule hW.now k hkl).2,hkc W hW⟩)
   have HMK:=Fd (show Calls prog 22 #[.pointer (some ⟨W0.heap.size,0,none⟩), .agg #[.slice (some ⟨bR,oR,none⟩) L.length c], .int .i64 q, .int .i64 5] w6.drew (Rc W0.heap.size v l L q w6.drew) from
    Il W0.heap.size W1.heap.size w2.heap.size v _ l L q 5 w6.drew HC6.out.drew (hsa.below (Below.refl _ _).drew) (by omega) (show w2.heap.size≤w6.heap.size by omega) HDR.out hl9 (by omega) (by omega))
   have HSA:=Fd hsa
   have hsb:=sB_bd (k:=q) (by omega)
   have k0:w6.cell? ⟨w2.heap.size,0,none⟩=some (.slice (some ⟨bR,oR,none⟩) L.length c):=(H5.out.2.2.2.2.1.go HG6.out (by omega)).cell 0 rfl
   obtain ⟨q7,q1⟩:=HKQ.out w6 hsa
   have hki:(1:Int) < (L[k].d.kids.length:Int):=by omega
   clear hsa hkc hq0 RU hge e4 hkd hkt
   go_wp2_with fail
   refine wp_region_held_drew (S:=(fun w9=> w9.cell? ⟨w2.heap.size,0,none⟩=some (.slice (some ⟨bR,oR,none⟩) L.length c)∧w9.cell? ⟨bR,oR+k*8+7,none⟩=some (.slice (some ⟨bk,fk,none⟩) L[k].d.kids.length c4)∧w9.cell? ⟨bk,fk+1,none⟩=some (.int .i64 q))) (by kernel_rfl) ?_ (fun hHeld=> ?_)
   ·(try dsimp only);exact ⟨k0,q7,q1⟩
   refine Za 0 (some 39) hHeld _ ?_;try go_frame
   refine Za 1 (some 40) hHeld _ ?_;try go_frame
   refine Za 2 (some 41) hHeld _ ?_;try go_frame
   refine Za 3 (some 42) hHeld _ ?_;try go_frame
   refine Za 4 (some 43) hHeld _ ?_;try go_frame
   refine Za 5 (some 44) hHeld _ ?_;try go_frame
   refine Za 6 (some 45) hHeld _ ?_;try go_frame
   refine Za 7 (some 46) hHeld _ ?_;try go_frame
   refine Za 8 (some 47) hHeld _ ?_;try go_frame
   refine Za 9 (some 48) hHeld _ ?_;try go_frame
   refine Zi 10 (fun K hK=> ?_)
   go_simp
   refine HMK.out.mono ?_;rintro e w7 ⟨y,rfl,hyv,hys,hyo,hgo7,hcu7⟩;obtain ⟨P5,d5,ew5⟩:=Zm hyo.own.bytes;obtain ⟨P6,d6,ew6⟩:=Zm hyo.own.row;have hgo7:Qw W0.heap.size w6 w7:=(Qw.of_below (Below.refl _ _).drew).trans hgo7;have HY7:=Fd (And.intro hyo (And.intro hgo7 (And.intro ew5 (And.intro ew6 hcu7))));unfold Qr;rw [ew5,ew6];have kd7:=(H5.out.2.2.2.2.1.go HG6.out (by omega)).go hgo7 (by omega);have ky7:=(H5.out.2.2.2.2.2.2.go HG6.out (by omega)).go hgo7 (by omega);obtain ⟨q7,q1⟩:=HKQ.out w7 (HSA.out.go hgo7 (by omega));clear k0;have k0:w7.cell? ⟨w2.heap.size,0,none⟩=some (.slice (some ⟨bR,oR,none⟩) L.length c):=kd7.cell 0 rfl;clear hyo hgo7 hcu7 hyv ew5 ew6;obtain ⟨⟨k1,k2,k3⟩,kf1,kf2,kf3⟩:=ky7.c3
   (try go_wp2_with fail)
   refine hK.out _ _ ?_ (fun hHeld=> ?_)
   ·(try dsimp only);exact ⟨k0,q7,q1⟩
   clear hK K
   try go_frame
   refine Zi 11 (fun K hK=> ?_)
   (try go_simp)
   obtain ⟨W9,hW9⟩:∃V,V=((w7.setCell ⟨W3.heap.size,0,none⟩ (.int .i64 y.n)).setCell ⟨W3.heap.size,1,none⟩ (.slice P5 y.b.length d5)).setCell ⟨W3.heap.size,2,none⟩ (.slice P6 y.items.length d6):=⟨_,rfl⟩;rw [←hW9];have hset:∀q,q≠W3.heap.size→W9.heap[q]?=w7.heap[q]?:=(fun q hq=> by rw [hW9,Below.heap_setCell _ _ _ q hq,Below.heap_setCell _ _ _ q hq,Below.heap_setCell _ _ _ q hq]);have hsz:W9.heap.size=w7.heap.size:=(by rw [hW9];simp [World.setCell]);have hz7:=HY7.out.2.1.size;have HSET:=Fd (And.intro hset hsz);have kd9:Zr W9 w2.heap.size 26 #[.slice (some ⟨bR,oR,none⟩) L.length c]:=(hset _ (by omega)).trans kd7;obtain ⟨q7,q1⟩:=HKQ.out W9 ((HSA.out.go HY7.out.2.1 (by omega)).step (by omega) fun k h1 h2=> hset k (by omega));clear k0;have k0:W9.cell? ⟨w2.heap.size,0,none⟩=some (.slice (some ⟨bR,oR,none⟩) L.length c):=kd9.cell 0 rfl;have ky9:Zr W9 W3.heap.size 29 #[.int .i64 y.n,y.vb,y.vi]:=(by rw [hW9,HY7.out.2.2.1,HY7.out.2.2.2.1];have:=((ky7.set 0 (.int .i64 y.n)).set 1 (.slice P5 y.b.length d5)).set 2 (.slice P6 y.items.length d6);simpa using this);have hc9:Qm W0.heap.size v l W9:=(by rw [hW9];exact ((HY7.out.2.2.2.2.set (by omega) _).set (by omega) _).set (by omega) _);have hbw9:Below w.heap.size w W9:=(by rw [hW9];exact Yz (Yz (Yz ((HG6.out.trans HY7.out.2.1).below H5.out.1 (by have:=H5.out.1.size;omega) (by omega)) (by omega) _) (by omega) _) (by omega) _);have HW9:=Fd (And.intro ky9 (And.intro hc9 hbw9));clear hW9 hset ky7 kd7 kd9 ky9 hc9 hbw9 k1 k2 k3 kf1 kf2 kf3
   refine hK.out _ _ ?_ (fun hHeld=> ?_)
   ·(try dsimp only);exact ⟨k0,q7,q1⟩
   clear hK K
   try go_frame
   refine wpAnyH_done (by kernel_rfl) ?_ _
   clear k0 q7 q1 hHeld
   go_wp2_with fail
   go_meet
   refine ⟨y,by omega,Fd fun W hg=> ?_,HW9.out.2.1⟩
   have hz9:W9.heap.size=w7.heap.size:=HSET.out.2
   have hgs:=hg.size
   have hgo57:Qw W0.heap.size W5 w7:=HG6.out.trans HY7.out.2.1
   have hkp:∀{T:TypeId} {cs:Array Value} {q:Nat},Zr W5 q T cs→q≠W0.heap.size→q≠W3.heap.size→Zr W q T cs:=fun hb h1 h2=> (show Zr W9 _ _ _ from (HSET.out.1 _ h2).trans (hb.go hgo57 (fun e=> h1 e.symm))).go hg (fun e=> h1 e.symm)
   have hyo9:y.own w6.heap.size W:=HY7.out.1.own.keep fun q hq=> by
    have hlt:=HY7.out.1.own.lt q hq
    have e6:w6.drew.heap.size=w6.heap.size:=rfl
    exact (hg.block q (by omega) (fun e=> by have:=Option.some.inj e;omega)).trans (HSET.out.1 q (by omega))
   refine ⟨hg.below HW9.out.2.2 (by have:=HW9.out.2.2.size;omega) (by omega),hkp H5.out.2.1 (by omega) (by omega),hkp H5.out.2.2.1 (by omega) (by omega),hkp H5.out.2.2.2.1 (by omega) (by omega),hkp H5.out.2.2.2.2.1 (by omega) (by omega),hkp H5.out.2.2.2.2.2.1 (by omega) (by omega),HW9.out.1.go hg (by omega),⟨Nat.le_refl _,fun W' h1 k1=> ?_⟩,by omega,by omega,by omega⟩
   have:=(HS5.out.go hgo57 (by omega)).2 W' (by omega) fun q q1 q2=> (k1 q (by omega) (by omega)).trans ((hg.block q (by omega) (fun e=> by have:=Option.some.inj e;omega)).trans (HSET.out.1 q (by omega)))
   exact ⟨this.1.more (by omega),this.2.more (by omega),(hyo9.stays (lo:=w.heap.size+3) (by omega)).2 W' h1 k1⟩
 obtain ⟨y,hys,HN9,hc9⟩:=hcut
 obtain ⟨w9,hw9⟩:∃V,V=wc:=⟨_,rfl⟩
 rw [←hw9] at HN9 hc9 ⊢
 clear hw9 hkt HG6 HC6 HN HC5 HS5 H5
 have HC9:=Fd hc9
 clear hc9
 have HZ:=Fd (HN9.out w9 (Qw.of_below (Below.refl _ _)))
 obtain ⟨A7,c7,e7, -⟩:=HZ.out.st.now.2.2.bytes.open_
 obtain ⟨A8,c8,e8, -⟩:=HZ.out.st.now.2.2.its.open_
 have HE7:=Fd (And.intro e7 e8)
 clear e7 e8
 have hB9:=Fd (show ∀W,Qw W0.heap.size w9 W→Zr W w2.heap.size 26 #[.slice A L.length c]∧Zr W (w2.heap.size+1) 29 #[.int .i64 x.n, .slice A5 x.b.length c5, .slice A6 x.items.length c6]∧Zr W W3.heap.size 29 #[.int .i64 y.n, .slice A7 y.b.length c7, .slice A8 y.items.length c8] from fun W hg=> by
  have h:=HN9.out W hg
  rw [←HE5.out.1,←HE5.out.2,←HE7.out.1,←HE7.out.2]
  exact ⟨h.dbox,h.vbox,h.ybox⟩)
 obtain ⟨kd,kv,ky⟩:=hB9.out w9 (Qw.of_below (Below.refl _ _))
 have hgy:=HZ.out.hy
 have k0:w9.cell? ⟨w2.heap.size,0,none⟩=some (.slice A L.length c):=kd.cell 0 rfl
 obtain ⟨⟨k1,k2,k3⟩, -⟩:=kv.c3
 obtain ⟨⟨k4,k5,k6⟩, -⟩:=ky.c3
 clear kd kv ky HZ
 go_wp2_with fail
 refine wp_region_held_drew (S:=(fun w9=> w9.cell? ⟨w2.heap.size,0,none⟩=some (.slice A L.length c)∧w9.cell? ⟨w2.heap.size+1,0,none⟩=some (.int .i64 x.n)∧w9.cell? ⟨w2.heap.size+1,1,none⟩=some (.slice A5 x.b.length c5)∧w9.cell? ⟨w2.heap.size+1,2,none⟩=some (.slice A6 x.items.length c6)∧w9.cell? ⟨W3.heap.size,0,none⟩=some (.int .i64 y.n)∧w9.cell? ⟨W3.heap.size,1,none⟩=some (.slice A7 y.b.length c7)∧w9.cell? ⟨W3.heap.size,2,none⟩=some (.slice A8 y.items.length c8))) (by kernel_rfl) ?_ (fun hHeld=> ?_)
 ·(try dsimp only);exact ⟨k0,k1,k2,k3,k4,k5,k6⟩
 refine Za 0 (some 50) hHeld _ ?_;try go_frame
 refine Za 1 (some 51) hHeld _ ?_;try go_frame
 refine Za 2 (some 52) hHeld _ ?_;try go_frame
 refine Za 3 (some 53) hHeld _ ?_;try go_frame
 refine Za 6 (some 56) hHeld _ ?_;try go_frame
 refine Zi 4 (fun K hK=> ?_)
 go_simp
 refine (Qn W0.heap.size W0.heap.size v l 6 w9.drew HC9.out.drew (by omega) (by omega)).mono ?_;rintro e W9 ⟨⟨z,rfl,hz0',hz1'⟩,hs,hzq,hc⟩;have hs:Qw W0.heap.size w9 W9:=(Qw.of_below (Below.refl _ _).drew).trans hs;have HZ:=Fd (HN9.out W9 hs);obtain ⟨kd,kv,ky⟩:=hB9.out W9 hs;clear hc hzq hs k0 k1 k2 k3 k4 k5 k6;have k0:W9.cell? ⟨w2.heap.size,0,none⟩=some (.slice A L.length c):=kd.cell 0 rfl;obtain ⟨⟨k1,k2,k3⟩, -⟩:=kv.c3;obtain ⟨⟨k4,k5,k6⟩, -⟩:=ky.c3;have r0:W9.cell? ⟨w.heap.size,0,none⟩=some (.slice none 0 0):=HZ.out.res.cell 0 rfl;have rf:W9.frozen? ⟨w.heap.size,0,none⟩=false:=HZ.out.res.frozen 0;have hzw:IntKind.i64.wrap (z - 1)=z - 1:=IntWalk.i64_in _ (by omega)
 (try go_wp2_with fail)
 refine hK.out _ _ ?_ (fun hHeld=> ?_)
 ·(try dsimp only);exact ⟨k0,k1,k2,k3,k4,k5,k6⟩
 clear hK K
 try go_frame
 refine Za 5 (some 55) hHeld _ ?_;try go_frame
 refine Zi 7 (fun K hK=> ?_)
 (try go_simp)
 obtain ⟨Y1,hY⟩:∃V,V=W9.setCell ⟨w.heap.size,0,none⟩ (.slice A L.length c):=⟨_,rfl⟩;rw [←hY];have kd:Zr Y1 w2.heap.size 26 #[.slice A L.length c]:=(by rw [hY];exact kd.other (by omega) _);have kv:Zr Y1 (w2.heap.size+1) 29 #[.int .i64 x.n, .slice A5 x.b.length c5, .slice A6 x.items.length c6]:=(by rw [hY];exact kv.other (by omega) _);have ky:Zr Y1 W3.heap.size 29 #[.int .i64 y.n, .slice A7 y.b.length c7, .slice A8 y.items.length c8]:=(by rw [hY];exact ky.other (by omega) _);have kq:Zr Y1 (w.heap.size+1) 29 #[.int .i64 0, .slice none 0 0, .slice none 0 0]:=(by rw [hY];exact HZ.out.req.other (by omega) _);have ks:Zr Y1 (w.heap.size+2) 29 #[.int .i64 0, .slice none 0 0, .slice none 0 0]:=(by rw [hY];exact HZ.out.rey.other (by omega) _);have HY1:=Fd hY;clear hY k0 k1 k2 k3 k4 k5 k6;have k0:Y1.cell? ⟨w2.heap.size,0,none⟩=some (.slice A L.length c):=kd.cell 0 rfl;obtain ⟨⟨k1,k2,k3⟩, -⟩:=kv.c3;obtain ⟨⟨k4,k5,k6⟩, -⟩:=ky.c3;obtain ⟨⟨p0,p1,p2⟩,g0,g1,g2⟩:=kq.c3
 refine hK.out _ _ ?_ (fun hHeld=> ?_)
 ·(try dsimp only);exact ⟨k0,k1,k2,k3,k4,k5,k6⟩
 clear hK K
 try go_frame
 refine Zi 8 (fun K hK=> ?_)
 (try go_simp)
 obtain ⟨Y2,hY⟩:∃V,V=((Y1.setCell ⟨w.heap.size+1,0,none⟩ (.int .i64 x.n)).setCell ⟨w.heap.size+1,1,none⟩ (.slice A5 x.b.length c5)).setCell ⟨w.heap.size+1,2,none⟩ (.slice A6 x.items.length c6):=⟨_,rfl⟩;rw [←hY];have kd:Zr Y2 w2.heap.size 26 #[.slice A L.length c]:=(by rw [hY];exact ((kd.other (by omega) _).other (by omega) _).other (by omega) _);have kv:Zr Y2 (w2.heap.size+1) 29 #[.int .i64 x.n, .slice A5 x.b.length c5, .slice A6 x.items.length c6]:=(by rw [hY];exact ((kv.other (by omega) _).other (by omega) _).other (by omega) _);have ky:Zr Y2 W3.heap.size 29 #[.int .i64 y.n, .slice A7 y.b.length c7, .slice A8 y.items.length c8]:=(by rw [hY];exact ((ky.other (by omega) _).other (by omega) _).other (by omega) _);have ks:Zr Y2 (w.heap.size+2) 29 #[.int .i64 0, .slice none 0 0, .slice none 0 0]:=(by rw [hY];exact ((ks.other (by omega) _).other (by omega) _).other (by omega) _);clear p0 p1 p2 g0 g1 g2;have HY2:=Fd hY;clear hY k0 k1 k2 k3 k4 k5 k6;have k0:Y2.cell? ⟨w2.heap.size,0,none⟩=some (.slice A L.length c):=kd.cell 0 rfl;obtain ⟨⟨k1,k2,k3⟩, -⟩:=kv.c3;obtain ⟨⟨k4,k5,k6⟩, -⟩:=ky.c3;obtain ⟨⟨p0,p1,p2⟩,g0,g1,g2⟩:=ks.c3
 refine hK.out _ _ ?_ (fun hHeld=> ?_)
 ·(try dsimp only);exact ⟨k0,k1,k2,k3,k4,k5,k6⟩
 clear hK K
 try go_frame
 refine Za 9 (some 4) hHeld _ ?_;try go_frame
 refine Za 10 (some 5) hHeld _ ?_;try go_frame
 refine Zi 11 (fun K hK=> ?_)
 (try go_simp)
 obtain ⟨Y3,hY⟩:∃V,V=((Y2.setCell ⟨w.heap.size+2,0,none⟩ (.int .i64 y.n)).setCell ⟨w.heap.size+2,1,none⟩ (.slice A7 y.b.length c7)).setCell ⟨w.heap.size+2,2,none⟩ (.slice A8 y.items.length c8):=⟨_,rfl⟩;rw [←hY];have kd:Zr Y3 w2.heap.size 26 #[.slice A L.length c]:=(by rw [hY];exact ((kd.other (by omega) _).other (by omega) _).other (by omega) _);have kv:Zr Y3 (w2.heap.size+1) 29 #[.int .i64 x.n, .slice A5 x.b.length c5, .slice A6 x.items.length c6]:=(by rw [hY];exact ((kv.other (by omega) _).other (by omega) _).other (by omega) _);have ky:Zr Y3 W3.heap.size 29 #[.int .i64 y.n, .slice A7 y.b.length c7, .slice A8 y.items.length c8]:=(by rw [hY];exact ((ky.other (by omega) _).other (by omega) _).other (by omega) _);clear p0 p1 p2 g0 g1 g2;have HY3:=Fd hY;clear hY k0 k1 k2 k3 k4 k5 k6;have k0:Y3.cell? ⟨w2.heap.size,0,none⟩=some (.slice A L.length c):=kd.cell 0 rfl;obtain ⟨⟨k1,k2,k3⟩, -⟩:=kv.c3;obtain ⟨⟨k4,k5,k6⟩, -⟩:=ky.c3
 refine hK.out _ _ ?_ (fun hHeld=> ?_)
 ·(try dsimp only);exact ⟨k0,k1,k2,k3,k4,k5,k6⟩
 clear hK K
 try go_frame
 refine wpAnyH_done (by kernel_rfl) ?_ _
 obtain ⟨Wf,hWf,hR,hQ,hP,hbel,hdd,hxx,hyy⟩:=HZ.out.fin
 rw [HE5.out.1,HE5.out.2,HE7.out.1,HE7.out.2] at hWf
 rw [HE5.out.1,HE5.out.2] at hQ
 rw [HE7.out.1,HE7.out.2] at hP
 have hYf:Y3=Wf:=by rw [HY3.out,HY2.out,HY1.out,hWf]
 rw [hYf]
 have t0:Wf.cell? ⟨w.heap.size,0,none⟩=some (.slice A L.length c):=hR.cell 0 rfl
 obtain ⟨⟨t1,t2,t3⟩, -⟩:=hQ.c3
 obtain ⟨⟨t4,t5,t6⟩, -⟩:=hP.c3
 clear k0 k1 k2 k3 k4 k5 k6 r0 rf kd kv ky kq ks hYf hWf hHeld
 go_wp2
 exact bodyPost_ret (v:= .tuple #[.agg #[.slice A L.length c], .agg #[.int .i64 x.n, .slice A5 x.b.length c5, .slice A6 x.items.length c6], .string S, .int .i64 (z - 1), .agg #[.int .i64 y.n, .slice A7 y.b.length c7, .slice A8 y.items.length c8]]) (by simp [results,results6,go_sem,t0,t1,t2,t3,t4,t5,t6,hzw]) rfl
  ⟨A,c,L,x,y,S,z - 1,by unfold Qr;rw [HE5.out.1,HE5.out.2,HE7.out.1,HE7.out.2],HDR.out,hl1,hl9,hxs,hys,hSs,⟨by omega,by omega⟩,hdd,hxx,hyy,hbel⟩
end Go.Proofs.YteldgdelmaeokaaGreatDoor
