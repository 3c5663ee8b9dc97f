/- Out of Dr22S, Dr22Q, Dr22K, Dr22D, Dr22A: the walks and plain laws that the claim needs. No condition but those that each theorem names. -/
import Derived.Test.YteldgdelmaeokaaGreatDoorGdc
import Derived.Test.YteldgdelmaeokaaGreatDoorGde
import Derived.Test.YteldgdelmaeokaaGreatDoorGdf
import Derived.Test.YteldgdelmaeokaaGreatDoorGda
import Derived.IntWalk
import Derived.WalkSpells
import Derived.WalkLawsBesides
import Derived.Deep.RegionHeld3
import Derived.Deep.DeepCutAuto
set_option linter.unusedSimpArgs false
set_option linter.unusedVariables false
set_option maxHeartbeats 8000000
set_option maxRecDepth 100000
namespace Go.Proofs.YteldgdelmaeokaaGreatDoor
open Go.Proofs.Tryz Go.RowKit
def OneE (b:Nat) (v:Value) (l:List UInt8) (w:World) (e:Ending) (w':World):Prop:=
 ∃(A:Option Addr) (c:Nat) (L:List RM) (x:VM) (S:ByteArray) (r:Int),e= .returned (.tuple #[.agg #[.slice A L.length c],Qs x, .string S, .int .i64 r])∧Ud (L.map RM.d)∧1≤L.length∧L.length≤9∧x.d.size≤589825∧S.size≤4096∧(-1≤r∧r < L.length)∧
  Zy w.heap.size w'.heap.size (fun W=> Qz W w'.heap.size (.slice A L.length c) L∧x.rd W w'.heap.size) w'∧Qx b w w'∧Qo b v l w'
theorem Iy {D:List Zi} {x:Zv} {ok:Bool} {S:List ByteArray} (h0:0 < D.length): -1≤(Ya D x ok S).2.1∧(Ya D x ok S).2.1 < D.length:=by
 unfold Ya
 split
 ·rename_i hc
  simp only [Bool.and_eq_true] at hc
  cases hw:Jk D (D.length - 1:Nat) x S with
  |none=> simp;omega
  |some q=>
   obtain ⟨k,y⟩:=q
   have h1:=hc.2.2
   rw [show ((D.length:Int) - 1)=((D.length - 1:Nat):Int) by omega] at h1
   obtain ⟨k',rfl,hk'⟩:=Jy (Xl h1 hw)
   show -1≤(k':Int)∧(k':Int) < D.length
   omega
 ·simp
  omega
structure Gy (b:Nat) (v:Value) (l:List UInt8) (vD:Value) (L:List RM) (w:World) (gd gv:Nat) (x:VM) (W:World):Prop where
 cur:Qo b v l W
 go:Qx b w W
 res:Zo W w.heap.size 26 #[.slice none 0 0]
 req:Zo W (w.heap.size+1) 29 #[.int .i64 0, .slice none 0 0, .slice none 0 0]
 dbox:Zo W gd 26 #[vD]
 vbox:Zo W gv 29 #[.int .i64 x.n,x.vb,x.vi]
 st:Zy (w.heap.size+2) W.heap.size (fun W'=> Qz W' W.heap.size vD L∧x.rd W' W.heap.size) W
 size:x.d.size≤589825
 hb:b < w.heap.size
 hgd:w.heap.size+2≤gd
 hgv:w.heap.size+2≤gv
section
variable {b gd gv:Nat} {v vD:Value} {l:List UInt8} {L:List RM} {w W W' W2:World} {x:VM}
theorem Zy.push {lo:Nat} {vD:Value} {L:List RM} {x:VM} {W W':World} (h:Zy lo W.heap.size (fun W'=> Qz W' W.heap.size vD L∧x.rd W' W.heap.size) W) (hz:W.heap.size≤W'.heap.size) (hk:∀k,lo≤k→k < W.heap.size→W'.heap[k]?=W.heap[k]?):
  Zy lo W'.heap.size (fun W2=> Qz W2 W'.heap.size vD L∧x.rd W2 W'.heap.size) W':=by
 refine ⟨Fu _,fun w2 h2 k2=> ?_⟩
 have:=h.2 w2 (by omega) fun k h1 h3=> (k2 k h1 (by omega)).trans (hk k h1 h3)
 exact ⟨this.1.more hz,this.2.more hz⟩
theorem Gy.step (h:Gy b v l vD L w gd gv x W) (hs:Qx b W W') (hc:Qo b v l W'):Gy b v l vD L w gd gv x W':=
 have h1:=h.hb
 have h2:=h.hgd
 have h3:=h.hgv
 ⟨hc,h.go.trans hs,h.res.go hs (by omega),h.req.go hs (by omega),h.dbox.go hs (by omega),h.vbox.go hs (by omega),h.st.push hs.size fun k h1 h2=> hs.block k h2 (fun e=> by have:k=b:=Fz e;omega),h.size,h.hb,h.hgd,h.hgv⟩
theorem Gy.below (h:Gy b v l vD L w gd gv x W) (hb:Below W.heap.size W W'):Gy b v l vD L w gd gv x W':=h.step (Qx.of_below hb) (h.cur.below hb)
theorem Gy.alloc (h:Gy b v l vD L w gd gv x W) (o:Obj):Gy b v l vD L w gd gv x (W.alloc o):=h.below ((Fv _ _).alloc (Fu _) o)
theorem Gy.drew (h:Gy b v l vD L w gd gv x W):Gy b v l vD L w gd gv x W.drew:=h.step ⟨rfl,rfl,rfl,Fu _,fun _ _ _=> rfl⟩ h.cur.drew
theorem Gy.bent {x':VM} {lo0 hi1 hi0:Nat} (h:Gy b v l vD L w gd gv x W) (hd:Zy lo0 hi1 (fun W'=> Qz W' hi1 vD L) W) (hlo0:w.heap.size+2≤lo0) (hi10:hi1≤hi0) (hi1v:hi1≤gv) (hdv:gd < gv) (hx:Ug x hi0 gv W) (hgd:gd < hi0) (hs:x'.d.size≤589825) (hr:Oa (fun q=> q∈x.bks∨W.heap.size≤q) x' W2) (ho:Xg (b::x.bks) W W2) (hc:Qo b v l W2):
  Zo W2 gv 29 #[.int .i64 x.n,x.vb,x.vi]∧Gy b v l vD L w gd gv x' (((W2.setCell ⟨gv,0,none⟩ (.int .i64 x'.n)).setCell ⟨gv,1,none⟩ x'.vb).setCell ⟨gv,2,none⟩ x'.vi):=by
 have h1:=h.hb
 have h2:=h.hgd
 have h3:=h.hgv
 have hgw:=h.go.size
 have hgv2:=h.vbox.lt
 have hd0:=hd.1
 have hbk:∀q∈x.bks,hi0≤q∧q < gv:=fun q hq=> hx.rng q hq
 have hne:∀q,(q < hi0∨gv≤q)→q≠b→q ∉ b::x.bks:=fun q h1 h2 hm=> (List.mem_cons.1 hm).elim h2 fun h3=> by have:=hbk q h3;omega
 have hz2:=ho.size
 have hv2:Zo W2 gv 29 #[.int .i64 x.n,x.vb,x.vi]:=(ho.block _ hgv2 (hne _ (.inr (Fu _)) (by omega))).trans h.vbox
 have hset:∀q,q≠gv→(((W2.setCell ⟨gv,0,none⟩ (.int .i64 x'.n)).setCell ⟨gv,1,none⟩ x'.vb).setCell ⟨gv,2,none⟩ x'.vi).heap[q]?=W2.heap[q]?:=fun q hq=> by
  rw [Below.heap_setCell _ _ _ q hq,Below.heap_setCell _ _ _ q hq,Below.heap_setCell _ _ _ q hq]
 have hsz:(((W2.setCell ⟨gv,0,none⟩ (.int .i64 x'.n)).setCell ⟨gv,1,none⟩ x'.vb).setCell ⟨gv,2,none⟩ x'.vi).heap.size=W2.heap.size:=by simp [World.setCell]
 have hkeep:∀{T:TypeId} {cs:Array Value} {q:Nat},Zo W q T cs→(q < hi0∨gv≤q)→q≠b→q≠gv→Zo (((W2.setCell ⟨gv,0,none⟩ (.int .i64 x'.n)).setCell ⟨gv,1,none⟩ x'.vb).setCell ⟨gv,2,none⟩ x'.vi) q T cs:=fun hb h1 h2 h3=> (hset _ h3).trans ((ho.block _ hb.lt (hne _ h1 h2)).trans hb)
 have hgo2:Qx b w W2:=⟨ho.os.trans h.go.os,ho.tape.trans h.go.tape,ho.output.trans h.go.output,Nat.le_trans hgw hz2,fun k hk hn=> (ho.block k (by omega) (hne k (.inl (by omega)) (fun e=> hn (by rw [e])))).trans (h.go.block k hk hn)⟩
 refine ⟨hv2,((hc.set (by omega) _).set (by omega) _).set (by omega) _,((hgo2.set (by omega) _).set (by omega) _).set (by omega) _,hkeep h.res (.inl (by omega)) (by omega) (by omega),hkeep h.req (.inl (by omega)) (by omega) (by omega),hkeep h.dbox (.inl hgd) (by omega) (by omega),?_,?_,hs,h1,h2,h3⟩
 ·have:=((hv2.set 0 (.int .i64 x'.n)).set 1 x'.vb).set 2 x'.vi
  simpa using this
 ·refine ⟨Fu _,fun w5 h5 k5=> ⟨?_,?_⟩⟩
  ·refine (hd.2 w5 (by omega) fun k q1 q2=> ?_).more (by omega)
   rw [k5 k (by omega) (by omega),hset k (by omega),ho.block k (by omega) (hne k (.inl (by omega)) (by omega))]
  ·rw [hsz]
   have hb2:∀q,(q∈x.bks∨W.heap.size≤q)→w.heap.size+2≤q∧q≠gv:=fun q hq=> hq.elim (fun h=> by have:=hbk q h;omega) (fun h=> by omega)
   refine hr w5 (by omega) fun q q1 q2=> ?_
   rw [k5 q (hb2 q q2).1 (by omega),hset q (hb2 q q2).2]
theorem Gy.fin (h:Gy b v l vD L w gd gv x W):∃Wf,Wf=(((W.setCell ⟨w.heap.size,0,none⟩ vD).setCell ⟨w.heap.size+1,0,none⟩ (.int .i64 x.n)).setCell ⟨w.heap.size+1,1,none⟩ x.vb).setCell ⟨w.heap.size+1,2,none⟩ x.vi∧
  Zo Wf w.heap.size 26 #[vD]∧Zo Wf (w.heap.size+1) 29 #[.int .i64 x.n,x.vb,x.vi]∧Qx b w Wf∧Qo b v l Wf∧Zy w.heap.size Wf.heap.size (fun W=> Qz W Wf.heap.size vD L∧x.rd W Wf.heap.size) Wf:=by
 have h1:=h.hb
 refine ⟨_,rfl,?_,?_,?_,?_,?_⟩
 ·have:=(((h.res.set 0 vD).other (q:=w.heap.size+1) (j:=0) (by omega) (.int .i64 x.n)).other (q:=w.heap.size+1) (j:=1) (by omega) x.vb).other (q:=w.heap.size+1) (j:=2) (by omega) x.vi
  simpa using this
 ·have:=(((h.req.other (q:=w.heap.size) (j:=0) (by omega) vD).set 0 (.int .i64 x.n)).set 1 x.vb).set 2 x.vi
  simpa using this
 ·exact (((h.go.set (Fu _) _).set (by omega) _).set (by omega) _).set (by omega) _
 ·exact (((h.cur.set (by omega) _).set (by omega) _).set (by omega) _).set (by omega) _
 ·refine (h.st.push (by simp [World.setCell]) fun k h1 h2=> ?_).wide (by omega) (Fu _) (Fu _)
  rw [Below.heap_setCell _ _ _ k (show k≠w.heap.size+1 by omega),Below.heap_setCell _ _ _ k (show k≠w.heap.size+1 by omega),Below.heap_setCell _ _ _ k (show k≠w.heap.size+1 by omega),Below.heap_setCell _ _ _ k (show k≠w.heap.size by omega)]
end
theorem findV_pos {D:List Zi} {x:Zv} {ok:Bool} {S:List ByteArray} (h0:0 < D.length) (h:(Ya D x ok S).2.2=true):0≤(Ya D x ok S).2.1:=by
 unfold Ya at h ⊢
 split
 ·rename_i hc
  rw [if_pos hc] at h
  simp only [Bool.and_eq_true] at hc
  cases hw:Jk D (D.length - 1:Nat) x S with
  |none=> rw [hw] at h;simp at h
  |some q=>
   obtain ⟨k,y⟩:=q
   have h1:=hc.2.2
   rw [show ((D.length:Int) - 1)=((D.length - 1:Nat):Int) by omega] at h1
   obtain ⟨k',rfl,hk'⟩:=Jy (Xl h1 hw)
   show (0:Int)≤(k':Int)
   omega
 ·rename_i hc
  rw [if_neg hc] at h
  simp at h
theorem below_p3 {base g:Nat} {a w:World} (h:Below base a w) (hg:base≤g) (x y z:Value):Below base a (((w.setCell ⟨g,0,none⟩ x).setCell ⟨g,1,none⟩ y).setCell ⟨g,2,none⟩ z):=((h.setCell hg _).setCell hg _).setCell hg _
structure DQ (g lo:Nat) (w:World) (v:Value) (l:List RM):Prop where
 row:w.ownsRow lo 50 8 v l.length (l.flatMap Qq)
 ng:v.ownBlock≠some g
 parts:∀r∈l,∀w':World,w.heap.size≤w'.heap.size→(∀k,lo≤k→k < w.heap.size→k≠g→v.ownBlock≠some k→w'.heap[k]?=w.heap[k]?)→r.rd w' w.heap.size
section
variable {g lo:Nat} {w w' w2 w3 wa:World} {v v':Value} {l:List RM}
theorem DQ.of (h:DG lo w v l) (hb:Below w.heap.size w w'):DQ w.heap.size lo w' v l:=
 ⟨Ql h.row fun g hg=> hb.block g (h.row.lt g hg).2,fun e=> absurd (h.row.lt _ e).2 (by omega),fun r hr w2 h2 k2=>
   (h.parts r hr w2 (Nat.le_trans hb.size h2) fun k h1 h3 hn=> (k2 k h1 (Ea h3 hb.size) (by omega) hn).trans (hb.block k h3)).more hb.size⟩
theorem DQ.stays (h:DQ g lo w v l):Zy lo w.heap.size (fun w'=> Qz w' w.heap.size v l) w:=⟨Fu _,fun w2 h2 k2=>
 ⟨(Tr h.row (Fu _)).2 w2 h2 k2,fun r hr=> h.parts r hr w2 h2 fun k h1 h3 _ _=> k2 k h1 h3⟩⟩
theorem DQ.step (h:DQ g lo w v l) (hz:w.heap.size≤w'.heap.size) (hk:∀k,lo≤k→k < w.heap.size→k≠g→w'.heap[k]?=w.heap[k]?):DQ g lo w' v l:=
 ⟨Ql h.row fun q hq=> hk q (h.row.lt q hq).1 (h.row.lt q hq).2 (fun e=> h.ng (e ▸ hq)),h.ng,fun r hr w2 h2 k2=> (h.parts r hr w2 (Nat.le_trans hz h2) fun k h1 h3 h4 hn=> (k2 k h1 (Ea h3 hz) h4 hn).trans (hk k h1 h3 h4)).more hz⟩
theorem DQ.snoc {r:RM} (h:DQ g lo w2 v l) (hr:Zy w.heap.size w2.heap.size (fun w'=> r.rd w' w2.heap.size) w2) (hv:∀q,v.ownBlock=some q→q < w.heap.size) (hg0:g < w.heap.size) (hw:w.heap.size≤w2.heap.size) (hlo:lo≤w.heap.size)
  (ha:Below w2.heap.size w2 wa) (hrow:w3.ownsRow lo 50 8 v' (l.length+1) (l.flatMap Qq++Qq r)) (hg:wa.grownBy w3 v.ownBlock) (hb:v'.ownBlock=v.ownBlock∨v'.ownBlock=some wa.heap.size):DQ g lo w3 v' (l++ [r]):=by
 have hz:=ha.size
 have hz3:=hg.size
 refine ⟨by rw [List.length_append,List.flatMap_append];simpa using hrow,fun e=> ?_,fun q hq w4 h4 k4=> ?_⟩
 ·rcases hb with e2|e2
  ·exact h.ng (e2 ▸ e)
  ·rw [e2] at e;injection e;omega
 have hkeep:∀k,lo≤k→k < w2.heap.size→k≠g→v.ownBlock≠some k→w4.heap[k]?=w2.heap[k]?:=fun k h1 h2 h3 hn=> by
  rw [k4 k h1 (by omega) h3 (fun e=> by
   rcases hb with e2|e2
   ·exact hn (e2 ▸ e)
   ·rw [e2] at e;injection e;omega),hg.block k (by omega) (fun e=> hn e.symm),ha.block k h2]
 rcases List.mem_append.1 hq with hq|hq
 ·exact (h.parts q hq w4 (by omega) hkeep).more (by omega)
 ·simp only [List.mem_singleton] at hq
  subst hq
  exact (hr.2 w4 (by omega) fun k h1 h2=> hkeep k (by omega) h2 (by omega) (fun e=> by have:=hv k e;omega)).more (by omega)
end
structure DqS (b:Nat) (v:Value) (l:List UInt8) (w:World) (lo g:Nat) (vD:Value) (L:List RM) (W:World):Prop where
 cur:Qo b v l W
 go:Qx b w W
 res:Zo W w.heap.size 26 #[.slice none 0 0]
 req:Zo W (w.heap.size+1) 29 #[.int .i64 0, .slice none 0 0, .slice none 0 0]
 dq:DQ g lo W vD L
 box:Zo W g 26 #[vD]
 dr:Ud (L.map RM.d)
 hb:b < w.heap.size
 hlo:w.heap.size+2≤lo
 hg:lo≤g
section
variable {b lo g:Nat} {v vD vD':Value} {l:List UInt8} {L:List RM} {w W W' W2 Wa W3:World}
theorem DqS.step (h:DqS b v l w lo g vD L W) (hs:Qx b W W') (hc:Qo b v l W'):DqS b v l w lo g vD L W':=
 have h1:=h.hb
 have h2:=h.hlo
 have h3:=h.hg
 ⟨hc,h.go.trans hs,h.res.go hs (by omega),h.req.go hs (by omega),h.dq.step hs.size (fun k h1 h2 _=> hs.block k h2 (fun e=> by injection e;omega)),h.box.go hs (by omega),h.dr,h.hb,h.hlo,h.hg⟩
theorem DqS.below (h:DqS b v l w lo g vD L W) (hb:Below W.heap.size W W'):DqS b v l w lo g vD L W':=h.step (Qx.of_below hb) (h.cur.below hb)
theorem DqS.drew (h:DqS b v l w lo g vD L W):DqS b v l w lo g vD L W.drew:=h.step ⟨rfl,rfl,rfl,Fu _,fun _ _ _=> rfl⟩ h.cur.drew
theorem DqS.app {r:RM} (h:DqS b v l w lo g vD L W) (hr:DrR (L.map RM.d) r.d) (hst:Zy W.heap.size W2.heap.size (fun w''=> r.rd w'' W2.heap.size) W2) (hgo:Qx b W W2) (hcu:Qo b v l W2) (ha:Below W2.heap.size W2 Wa)
  (own2:W3.ownsRow lo 50 8 vD' (L.length+1) (L.flatMap Qq++Qq r)) (hg:Wa.grownBy W3 vD.ownBlock) (hv:vD'.ownBlock=vD.ownBlock∨vD'.ownBlock=some Wa.heap.size):
  Zo W3 g 26 #[vD]∧DqS b v l w lo g vD' (L++ [r]) (W3.setCell ⟨g,0,none⟩ vD'):=by
 have h1:=h.hb
 have h2:=h.hlo
 have h3:=h.hg
 have hgl:=h.box.lt
 have hS:=(h.step hgo hcu).below ha
 have hr0:∀k,vD.ownBlock=some k→lo≤k:=fun k e=> (h.dq.row.lt k e).1
 have hB:Zo W3 g 26 #[vD]:=hS.box.row hg (fun e=> h.dq.ng e)
 have hdq:=(h.step hgo hcu).dq.snoc hst (fun k e=> (h.dq.row.lt k e).2) hgl hgo.size (by omega) ha own2 hg hv
 have hz3:=hg.size
 refine ⟨hB,(hS.cur.rowG hg fun k e=> by have:=hr0 k e;omega).set (by omega) _,(hS.go.rowG hg fun k e=> by have:=hr0 k e;omega).set (by omega) _,(hS.res.row hg fun e=> by have:=hr0 _ e;omega).other (by omega) _,(hS.req.row hg fun e=> by have:=hr0 _ e;omega).other (by omega) _,
  hdq.step (by simp [World.setCell]) (fun k h1 h2 h3=> Below.heap_setCell _ _ _ k h3),?_,?_,h1,h2,h3⟩
 ·have:=hB.set 0 vD'
  simpa using this
 ·rw [List.map_append];exact h.dr.snoc hr
end
theorem l22One_k (b:Nat) (v:Value) (l:List UInt8) (Kd:Int) (w:World) (h:Qo b v l w) (hK1:1≤Kd) (hK10:Kd≤10):Calls prog 20 #[.pointer (some ⟨b,0,none⟩), .int .i64 Kd] w (OneE b v l w):=by
 obtain ⟨i0,hi,hz0,hz1,hz2⟩:=info_parts info_rule
 have hbw:=h.lt
 obtain ⟨W0,hW0⟩:∃W0,W0=(w.alloc (.cells #[.slice none 0 0] 26)).alloc (.cells #[.int .i64 0, .slice none 0 0, .slice none 0 0] 29):=⟨_,rfl⟩
 have hb0:Below w.heap.size w W0:=by rw [hW0];exact ((Fv w.heap.size w).alloc (Fu _) _).alloc (by simp) _
 have hz00:w.heap.size+2≤W0.heap.size:=by rw [hW0];simp
 have R0:Zo W0 w.heap.size 26 #[.slice none 0 0]:=by rw [hW0];exact (Zo.new w _ _).alloc _
 have Q0:Zo W0 (w.heap.size+1) 29 #[.int .i64 0, .slice none 0 0, .slice none 0 0]:=by rw [hW0];have:=Zo.new (w.alloc (.cells #[.slice none 0 0] 26)) 29 #[.int .i64 0, .slice none 0 0, .slice none 0 0];simpa using this
 have H0:=Fs (Ft (h.below hb0) (Ft (Qx.of_below (b:=b) hb0) (Ft R0 Q0)))
 clear h hb0 R0 Q0
 go_enter func20,ntmps20
 go_upto_region 1 with fail
 rw [←hW0]
 clear hW0
 go_wp2_with fail
 refine (Mf b v l W0 H0.out.1).mono ?_
 rintro e w1 ⟨A,c,L,rfl,hdr,hl1,hl6,hdg,hgo,hcu⟩
 have hz1':=hgo.size
 have hzl:=hdg.stays.1
 obtain ⟨W2,hW2⟩:∃W2,W2=w1.alloc (.cells #[.slice A L.length c] 26):=⟨_,rfl⟩
 have h12:Below w1.heap.size w1 W2:=by rw [hW2];exact (Fv _ _).alloc (Fu _) _
 have D2:Zo W2 w1.heap.size 26 #[.slice A L.length c]:=by rw [hW2];exact Zo.new w1 _ _
 have hz2':w1.heap.size < W2.heap.size:=D2.lt
 have hzb:W0.heap.size+2≤w1.heap.size:=by
  rcases hdg.row.2 with ⟨-,e⟩|⟨q,cap,cur, -,hb,hg, -⟩
  ·omega
  ·have:=(Array.getElem?_eq_some_iff.1 hg).1;omega
 have HX:=Fs (show DqS b v l w (W0.heap.size+2) w1.heap.size (.slice A L.length c) L W2 from ⟨hcu.below h12,H0.out.2.1.trans (hgo.trans (Qx.of_below h12)),(H0.out.2.2.1.go hgo (by omega)).below h12,(H0.out.2.2.2.go hgo (by omega)).below h12, .of hdg h12,D2,hdr,hbw,by omega,hzb⟩)
 have hK0:(0:Int) < Kd:=by omega
 clear hdg hgo hcu h12 D2 hdr H0 hzl
 go_upto_region 2 with fail
 rw [←hW2]
 clear hW2
 go_wp2
 go_loopw [9] (fun i wr=> ∃(k:Nat) (A':Option Addr) (c':Nat) (L':List RM),i= .int .i64 k∧k≤3∧L'.length≤6+k∧1≤L'.length∧DqS b v l w (W0.heap.size+2) w1.heap.size (.slice A' L'.length c') L' wr) (fun i _=> 3 - (intOf i).toNat)
 case atStart=> exact ⟨0,_,_,L,rfl,by omega,by omega,hl1,HX.out⟩
 case round=>
  clear HX hl1 hl6 hz2'
  obtain ⟨k,Ar,cr,L,rfl,hk3,hL8,hL1,hds⟩:=hrel
  by_cases hlt:k < 3
  ·have hlt':(k:Int) < 3:=by omega
   have hL8:L.length≤8:=by omega
   have hzr:=hds.box.lt
   have HX:=Fs hds.drew
   clear hds
   go_wp2_with fail
   refine Qr (S:=(fun w9=> w9.cell? ⟨w1.heap.size,0,none⟩=some (.slice Ar L.length cr))) 13 (by kernel_rfl) ?_ (fun hHeld=> ?_)
   ·(try dsimp only);exact HX.out.box.cell 0 rfl
   refine Zt 0 (some 28) hHeld _ ?_;try go_frame
   refine Zt 1 (some 29) hHeld _ ?_;try go_frame
   refine Zt 2 (some 30) hHeld _ ?_;try go_frame
   refine Zt 3 (some 31) hHeld _ ?_;try go_frame
   refine Zt 4 (some 32) hHeld _ ?_;try go_frame
   refine Zt 5 (some 33) hHeld _ ?_;try go_frame
   refine Zt 6 (some 34) hHeld _ ?_;try go_frame
   refine Qw 7 (fun K hK=> ?_)
   (try go_simp)
   obtain ⟨X1,hX1⟩:∃V,V=(wr.alloc (.cells #[.int .i64 Kd, .int .i64 Kd, .int .i64 6, .int .i64 9] 3)).drew:=⟨_,rfl⟩;rw [←hX1];have hbk:Zo X1 wr.heap.size 3 #[.int .i64 Kd, .int .i64 Kd, .int .i64 6, .int .i64 9]:=(by rw [hX1];exact Zo.new wr _ _);have hzx1:X1.heap.size=wr.heap.size+1:=(by rw [hX1];simp);have hI:=Fs (show Zy wr.heap.size (wr.heap.size+1) (fun w'=> Yt w' (wr.heap.size+1) (.slice (some ⟨wr.heap.size,0,none⟩) 4 4) [Kd,Kd,6,9]) X1 from ⟨by omega,fun w5 h5 k5=> Rx (show Zo w5 _ 3 _ from (k5 _ (by omega) (by omega)).trans hbk) rfl (by simp [maxLen]) (by omega)⟩);have HX:=Fs (HX.out.below (W':=X1) (by rw [hX1];exact (Fv _ _).alloc (Fu _) _));clear hX1 hbk;have hzx1:X1.heap.size≤wr.heap.size+1:=Nat.le_of_eq hzx1
   refine hK.out _ _ ?_ (fun hHeld=> ?_)
   ·(try dsimp only);first|exact hk0|exact HX.out.box.cell 0 rfl
   clear hK K
   try go_frame
   refine Qw 8 (fun K hK=> ?_)
   go_simp
   refine (Tv b wr.heap.size (wr.heap.size+1) (wr.heap.size+1) v _ l [Kd,Kd,6,9] X1 HX.out.cur hI.out (by omega) (by simp) (by simp)).mono ?_;rintro e X0 ⟨⟨z,hz,rfl⟩,hs,hzq,hc3⟩;clear hzq;have hzz:1≤z∧z≤10:=(by simp only [List.mem_cons,List.not_mem_nil,or_false] at hz;omega);have hza:=hzz.1;have hzb':=hzz.2;have HX:=Fs (HX.out.step hs hc3);clear hz hs hc3 hI hzz
   (try go_wp2_with fail)
   refine hK.out _ _ ?_ (fun hHeld=> ?_)
   ·(try dsimp only);first|exact hk0|exact HX.out.box.cell 0 rfl
   clear hK K
   try go_frame
   refine Qw 9 (fun K hK=> ?_)
   go_simp
   have HP:=HX;refine (Oj b (W0.heap.size+2) _ v (.slice Ar L.length cr) l L z _ HX.out.cur HX.out.dq.stays (by omega) (Fu _) HX.out.dr (fun _=> by omega) (by omega) (by omega) (by omega)).mono ?_;rintro e X2 ⟨r,rfl,hdr,hst,hgo,hcu⟩;obtain ⟨A1,c1,e1, -⟩:=hst.now.b.open_;obtain ⟨A2,c2,e2, -⟩:=Sl.one hst.now.n;obtain ⟨A3,c3,e3, -⟩:=Sl.one hst.now.t;obtain ⟨A4,c4,e4, -⟩:=Sl.one hst.now.k;have HM:=Fs (Ft hdr (Ft hst (Ft hgo hcu)));have HX:=Fs (HX.out.step hgo hcu);clear hdr hst hgo hcu;have HE:=Fs (Ft e1 (Ft e2 (Ft e3 e4)));unfold Ja;rw [e1,e2,e3,e4];clear e1 e2 e3 e4
   (try go_wp2_with fail)
   refine hK.out _ _ ?_ (fun hHeld=> ?_)
   ·(try dsimp only);first|exact hk0|exact HX.out.box.cell 0 rfl
   clear hK K
   try go_frame
   refine Qw 10 (fun K hK=> ?_)
   (try go_simp)
   obtain ⟨X3,hX3⟩:∃V,V=X2.alloc (.cells #[.string r.d.name, .int .i64 r.d.kind, .int .i64 r.d.size, .bool r.d.little, .slice A1 r.d.bytes.length c1, .slice A2 r.d.names.length c2, .slice A3 r.d.tags.length c3, .slice A4 r.d.kids.length c4] 50):=⟨_,rfl⟩;rw [←hX3];have hal:Below X2.heap.size X2 X3:=(by rw [hX3];exact (Fv _ _).alloc (Fu _) _);have hsl:=Fs (show Sl X3 (X2.heap.size+1) 8 (.slice (some ⟨X2.heap.size,0,none⟩) 1 1) 1 (Qq r) by rw [hX3];exact Tj (xs:=Qq r) (by unfold Qq;rw [HE.out.1,HE.out.2.1,HE.out.2.2.1,HE.out.2.2.2];exact Zo.new X2 _ _) rfl (Nat.lt_succ_self _));have HX:=Fs (HX.out.below hal);have HA:=Fs hal;clear hX3 hal
   refine hK.out _ _ ?_ (fun hHeld=> ?_)
   ·(try dsimp only);first|exact hk0|exact HX.out.box.cell 0 rfl
   clear hK K
   try go_frame
   refine Qw 11 (fun K hK=> ?_)
   have hone:∀u∈Qq r,u.oneCell'=true:=(by intro u hu;unfold Qq at hu;rw [HE.out.1,HE.out.2.1,HE.out.2.2.1,HE.out.2.2.2] at hu;simp only [List.mem_cons,List.not_mem_nil,or_false] at hu;rcases hu with rfl|rfl|rfl|rfl|rfl|rfl|rfl|rfl <;> rfl);refine Je _ (.tmp 29) (.tmp 38) 24 rfl (W0.heap.size+2) 50 i0 (.agg #[.string ⟨#[]⟩, .int .i64 0, .int .i64 0, .bool false, .slice none 0 0, .slice none 0 0, .slice none 0 0, .slice none 0 0]) 8 136 underlying24 hi hz0 hz1 hz2 rfl (by decide) _ L.length (L.flatMap Qq) rfl (by exact HX.out.dq.row) _ 1 _ (Qq r) rfl (by exact hsl.out) hone (by omega) (by unfold maxLen;omega) (by have:=HX.out.hg;have:=HX.out.box.lt;omega) ?_;intro v2 X6 own2 hg2 hv2;obtain ⟨An,cn,rfl⟩:=Zq own2;have HM:=Fs (HP.out.app HM.out.1 HM.out.2.1 HM.out.2.2.1 HM.out.2.2.2 HA.out own2 hg2 hv2);clear own2 hg2 hv2 hone;have hk0:X6.cell? ⟨w1.heap.size,0,none⟩=some (.slice Ar L.length cr):=HM.out.1.cell 0 rfl;have hf0:=HM.out.1.frozen 0
   refine hK.out _ _ ?_ (fun hHeld=> ?_)
   ·(try dsimp only);first|exact hk0|exact HX.out.box.cell 0 rfl
   clear hK K
   try go_frame
   refine Zt 12 (some 40) hHeld _ ?_;try go_frame
   refine Uz (fun K hK=> ?_)
   (try go_simp)
   refine hK.out _ _ ?_
   clear hK K
   try go_frame
   refine Js (by kernel_rfl) ?_ _
   obtain ⟨X7,hX7⟩:∃V,V=X6.setCell ⟨w1.heap.size,0,none⟩ (.slice An (L.length+1) cn):=⟨_,rfl⟩
   rw [←hX7]
   have HY:=Fs (by rw [hX7];simpa using HM.out.2:DqS b v l w (W0.heap.size+2) w1.heap.size (.slice An (L++ [r]).length cn) (L++ [r]) X7)
   clear hX7 HM hk0 hf0 HX HP HA hsl HE
   go_wp2
   go_roundw
   case rel=> exact ⟨k+1,_,_,L++ [r],by go_num,by omega,by simp;omega,by simp,HY.out⟩
   case measure=> simp [intOf];omega
  ·obtain rfl:k=3:=by omega
   obtain ⟨W2,hW2⟩:∃V,V=wr:=⟨_,rfl⟩
   rw [←hW2] at hds ⊢
   clear hW2
   have hL9:L.length≤9:=by omega
   have hzg:=hds.box.lt
   have hzb2:=hds.hg
   have hdr:=hds.dr
   have HS2:=Fs hds.dq.stays
   have hlm:(L.map RM.d).length=L.length:=List.length_map ..
   have HDR:=Fs hdr
   have HOK:=Fs (show ∀r∈L,r.d.ok from fun r hr=> hdr.ok (by rw [hlm];omega) _ (List.mem_map_of_mem hr))
   have HSM:=Fs (show ∀r∈L,r.d.small 1048576 from fun r hr=> hdr.small _ (List.mem_map_of_mem hr))
   have hMk:Calls prog 22 #[.pointer (some ⟨b,0,none⟩), .agg #[.slice Ar L.length cr], .int .i64 (L.length - 1:Nat), .int .i64 10] W2 (Rr b v l L (L.length - 1) W2):=
    l9Make_any b (W0.heap.size+2) W2.heap.size v _ l L (L.length - 1) 10 W2 hds.cur HS2.out (by omega) (by omega) hdr (by omega) (by omega) (by omega)
   have HMK:=Fs hMk
   have s0:W2.cell? ⟨w1.heap.size,0,none⟩=some (.slice Ar L.length cr):=hds.box.cell 0 rfl
   have hl1w:IntKind.i64.wrap ((L.length:Int) - 1)=((L.length - 1:Nat):Int):=by rw [IntWalk.i64_in _ (by omega)];omega
   have H2:=Fs hds
   clear hMk hdr hds
   go_wp2_with fail
   refine HMK.out.mono ?_
   rintro e w3 ⟨x,rfl,hxv,hxs,hxo,hgo3,hcu3⟩
   obtain ⟨A5,c5,e5⟩:=Zq hxo.own.bytes
   obtain ⟨A6,c6,e6⟩:=Zq hxo.own.row
   unfold Qs
   rw [e5,e6]
   obtain ⟨W4,hW4⟩:∃W4,W4=w3.alloc (.cells #[.int .i64 x.n, .slice A5 x.b.length c5, .slice A6 x.items.length c6] 29):=⟨_,rfl⟩
   have h34:Below w3.heap.size w3 W4:=by rw [hW4];exact (Fv _ _).alloc (Fu _) _
   have V4:Zo W4 w3.heap.size 29 #[.int .i64 x.n,x.vb,x.vi]:=by rw [hW4,e5,e6];exact Zo.new w3 _ _
   have hz3:=hgo3.size
   have hz4:w3.heap.size < W4.heap.size:=V4.lt
   have hgo24:Qx b W2 W4:=hgo3.trans (Qx.of_below h34)
   have hxo4:=hxo.keep (Xq.of_below h34 0 0) (.inr (Eb _))
   have hsb:=sB_bd (k:=L.length - 1) (by omega)
   have HS4:=Fs (HS2.out.go hgo24 (by omega))
   have H4:=Fs (show Gy b v l (.slice Ar L.length cr) L w w1.heap.size w3.heap.size x W4 from
    ⟨hcu3.below h34,H2.out.go.trans hgo24,H2.out.res.go hgo24 (by omega),H2.out.req.go hgo24 (by omega),H2.out.box.go hgo24 (by omega),V4,
      ⟨Fu _,fun W' h1 k1=> ⟨((HS4.out.2 W' h1 fun k q1 q2=> k1 k (by omega) (by omega)).more (by omega)),(hxo4.own.stays (lo:=w.heap.size+2) (by omega)).2 W' h1 k1⟩⟩,by omega,hbw,by omega,by omega⟩)
   have HXO:=Fs (Ft hxo4 hxv)
   have HE5:=Fs (Ft e5 e6)
   have hPT:Calls prog 50 #[.pointer (some ⟨b,0,none⟩), .agg #[.slice Ar L.length cr], .agg #[.int .i64 x.n, .slice A5 x.b.length c5, .slice A6 x.items.length c6]] W4 (PathE b v l W4):=by
    have:=l18Path_any b _ _ v (.slice Ar L.length cr) l L x W4 H4.out.cur HS4.out (by have:=HS4.out.1;omega) HDR.out hL1 hL9 hxo4.own.rd hxv (by omega)
    unfold Qs at this
    rw [e5,e6] at this
    exact this
   have HPT:=Fs hPT
   have k0:W4.cell? ⟨w1.heap.size,0,none⟩=some (.slice Ar L.length cr):=H4.out.dbox.cell 0 rfl
   have k1:W4.cell? ⟨w3.heap.size,0,none⟩=some (.int .i64 x.n):=H4.out.vbox.cell 0 rfl
   have k2:W4.cell? ⟨w3.heap.size,1,none⟩=some (.slice A5 x.b.length c5):=by rw [←e5];exact H4.out.vbox.cell 1 rfl
   have k3:W4.cell? ⟨w3.heap.size,2,none⟩=some (.slice A6 x.items.length c6):=by rw [←e6];exact H4.out.vbox.cell 2 rfl
   clear hPT hxo hxo4 hgo3 hcu3 h34 V4 hgo24 H2 HMK HS2 e5 e6 s0
   go_upto_region 8 with fail
   rw [←hW4]
   clear hW4
   go_wp2_with fail
   refine HPT.out.mono ?_
   rintro e w5 ⟨⟨S0,rfl,hS0⟩,hg5,hc5⟩
   have H5:=Fs (H4.out.step hg5 hc5)
   have HS5:=Fs (HS4.out.go hg5 (by omega))
   have HX5:=Fs (show Ug x W2.heap.size w3.heap.size w5 from ⟨HXO.out.1.own.keep fun g hg=> hg5.block g (HXO.out.1.own.lt g hg).2 (fun e=> by have e2:g=b:=Fz e;have:=(HXO.out.1.own.lt g hg).1;omega),HXO.out.1.nd,HXO.out.1.rng⟩)
   clear hg5 hc5 HPT H4 HS4 k0 k1 k2 k3
   go_upto_if 58 with (go_at_call 21;refine (Vn b b v l 4 w5 H5.out.cur (by omega) (by omega)).mono ?_;rintro e w6 ⟨⟨t,rfl⟩,hg6,hzq,hc6⟩)
   have H6:=Fs (H5.out.step hg6 hc6)
   have HS6:=Fs (HS5.out.go hg6 (by omega))
   have HX6:=Fs (show Ug x W2.heap.size w3.heap.size w6 from ⟨HX5.out.own.keep fun g hg=> hg6.block g (HX5.out.own.lt g hg).2 (fun e=> by have e2:g=b:=Fz e;have:=(HX5.out.own.lt g hg).1;omega),HX5.out.nd,HX5.out.rng⟩)
   clear hzq hg6 hc6 H5 HS5 HX5
   go_cut [11] (fun s11 wx=> ∃S:ByteArray,s11= .string S∧S.size≤4096∧Below w6.heap.size w6 wx)
   case first=>
    cases t with
    |true=>
     go_wp2_with fail
     go_meet
     exact ⟨S0,rfl,hS0,Fv _ _⟩
    |false=>
     have hpc:=Mg L HOK.out HSM.out (HDR.out.valid (by rw [hlm];omega) (by rw [hlm];omega)) (L.length - 1) (by omega) (.slice Ar L.length cr) x ⟨#[]⟩ w6.heap.size w6 H6.out.st.now.1 (Fu _) HXO.out.2 H6.out.st.now.2 (by omega) (by show 0+_≤_;omega)
     unfold Qs at hpc
     rw [HE5.out.1,HE5.out.2] at hpc
     have HPC:=Fs hpc
     have k0:w6.cell? ⟨w1.heap.size,0,none⟩=some (.slice Ar L.length cr):=H6.out.dbox.cell 0 rfl
     have k1:w6.cell? ⟨w3.heap.size,0,none⟩=some (.int .i64 x.n):=H6.out.vbox.cell 0 rfl
     have k2:w6.cell? ⟨w3.heap.size,1,none⟩=some (.slice A5 x.b.length c5):=by rw [←HE5.out.1];exact H6.out.vbox.cell 1 rfl
     have k3:w6.cell? ⟨w3.heap.size,2,none⟩=some (.slice A6 x.items.length c6):=by rw [←HE5.out.2];exact H6.out.vbox.cell 2 rfl
     clear hpc
     go_wp2_with fail
     refine HPC.out.mono ?_
     rintro e w7 ⟨u,P,rfl,own,hP1,hP2,hPs,bel⟩
     obtain ⟨Ap,cp,rfl,hcp,hmp,hpc⟩:=Sl.one (Sl.of_own own)
     have HPK:=Fs (Ft hpc hPs)
     have HB7:=Fs bel
     have hzw7:=bel.size
     unfold maxLen at hmp
     clear own hpc hPs bel k0 k1 k2 k3 HPC
     go_wp2
     go_loopw [11,13,14,15,16] (fun s11 i _ _ _ wr=> ∃(k:Nat) (S:ByteArray),k≤P.length∧i= .int .i64 k∧s11= .string S∧S.size≤4096∧Below w7.heap.size w7 wr) (fun _ i _ _ _ _=> P.length - (intOf i).toNat)
     case atStart=> exact ⟨0,S0,by omega,rfl,rfl,hS0,Fv _ _⟩
     case round=>
      obtain ⟨k,S,hk,rfl,rfl,hS,hb⟩:=hrel
      have hbs:=Zb hb HB7.out
      by_cases hlt:k < P.length
      ·obtain ⟨bp,op,rfl,hbp,pc⟩:=HPK.out.1 k hlt
       have hps:=HPK.out.2 P[k] (Fw hlt)
       have pc:=Zc pc hb hbp
       generalize P[k]=p at*
       have hps':p.size≤4096:=by have e0:ByteArray.size ⟨#[]⟩=0:=rfl;omega
       have HR:=Fs (H6.out.below hbs)
       have hFD:∀W,Below wr.heap.size wr W→Calls prog 10 #[.agg #[.slice Ar L.length cr], .agg #[.int .i64 x.n, .slice A5 x.b.length c5, .slice A6 x.items.length c6], .string p] W (Mu (Ya (L.map RM.d) x.d (Qt Zf p) (Yr Zf p)) W):=fun W hw=> by
        have hst:=(HR.out.below hw).st.now
        have:=Xw (.slice Ar L.length cr) L x p W.heap.size W hst.1 (Fu _) HOK.out HSM.out hst.2 (by omega) (by omega)
        unfold Qs at this
        rw [HE5.out.1,HE5.out.2] at this
        exact this
       have hFR:=Iy (D:=L.map RM.d) (x:=x.d) (ok:=Qt Zf p) (S:=Yr Zf p) (by rw [hlm];omega)
       have hFP:=findV_pos (D:=L.map RM.d) (x:=x.d) (ok:=Qt Zf p) (S:=Yr Zf p) (by rw [hlm];omega)
       rw [hlm] at hFR
       generalize Ya (L.map RM.d) x.d (Qt Zf p) (Yr Zf p)=ff at*
       have HFD:=Fs hFD
       have HFP:=Fs (Ft hFR hFP)
       have k0:wr.cell? ⟨w1.heap.size,0,none⟩=some (.slice Ar L.length cr):=HR.out.dbox.cell 0 rfl
       have k1:wr.cell? ⟨w3.heap.size,0,none⟩=some (.int .i64 x.n):=HR.out.vbox.cell 0 rfl
       have k2:wr.cell? ⟨w3.heap.size,1,none⟩=some (.slice A5 x.b.length c5):=by rw [←HE5.out.1];exact HR.out.vbox.cell 1 rfl
       have k3:wr.cell? ⟨w3.heap.size,2,none⟩=some (.slice A6 x.items.length c6):=by rw [←HE5.out.2];exact HR.out.vbox.cell 2 rfl
       clear hFD hFR hFP
       go_upto_region 14 with fail
       go_cut [14,15,16] (fun s14 s15 s16 wx=> ∃(r:Int) (okb:Bool),s15= .int .i64 r∧s16= .bool okb∧Hid (okb=true→0≤r∧r < L.length)∧Below wr.heap.size wr wx)
       case first=>
        have bq:=(Fv wr.heap.size wr).drew
        go_wp2_with fail
        refine wp_region_held_drew (S:=(fun w9=> w9.cell? ⟨w1.heap.size,0,none⟩=some (.slice Ar L.length cr)∧w9.cell? ⟨w3.heap.size,0,none⟩=some (.int .i64 x.n)∧w9.cell? ⟨w3.heap.size,1,none⟩=some (.slice A5 x.b.length c5)∧w9.cell? ⟨w3.heap.size,2,none⟩=some (.slice A6 x.items.length c6)∧w9.cell? ⟨bp,op+k,none⟩=some (.string p))) (by kernel_rfl) ?_ (fun hHeld=> ?_)
        ·(try dsimp only);exact ⟨k0,k1,k2,k3,pc⟩
        refine Za 0 (some 73) hHeld _ ?_;try go_frame
        refine Za 1 (some 74) hHeld _ ?_;try go_frame
        refine Za 2 (some 75) hHeld _ ?_;try go_frame
        refine Za 3 (some 76) hHeld _ ?_;try go_frame
        refine Za 4 (some 77) hHeld _ ?_;try go_frame
        refine Za 5 (some 78) hHeld _ ?_;try go_frame
        refine Rd 6 11 (fun K hK=> ?_) (fun K hK=> ?_)
        ·go_simp
         refine (HFD.out _ bq).mono ?_;rintro e wq ⟨vv,rfl,hov,bel⟩;obtain ⟨A1,c1,A2,c2,rfl⟩:=hov.agg;clear hov;have bq:=Zb bel bq;(try have zB:=zB.below bel)
         (try go_wp2_with fail)
         refine hK.out _ _ ?_ (fun hHeld=> ?_)
         ·(try dsimp only);exact ⟨Ec bq k0,Ec bq k1,Ec bq k2,Ec bq k3,Ec bq pc⟩
         clear hK K
         try go_frame
         refine Za 7 (some 72) hHeld _ ?_;try go_frame
         refine Za 8 (some 80) hHeld _ ?_;try go_frame
         refine Za 9 (some 81) hHeld _ ?_;try go_frame
         refine Za 10 (some 82) hHeld _ ?_;try go_frame
         refine Zh 11 (fun K hK=> ?_)
         (try go_simp)
         have hge:=bq.size;first|(have zB:=Zo.new wq 29 #[.int .i64 0, .slice none 0 0, .slice none 0 0];have bq:=bq.alloc bq.size (.cells #[.int .i64 0, .slice none 0 0, .slice none 0 0] 29);generalize wq.alloc (.cells #[.int .i64 0, .slice none 0 0, .slice none 0 0] 29)=wa at*)|(have zB:Zo (wr.alloc (.cells #[.int .i64 0, .slice none 0 0, .slice none 0 0] 29)).drew wr.heap.size 29 #[.int .i64 0, .slice none 0 0, .slice none 0 0]:=Zo.new wr _ _;have bq:Below wr.heap.size wr (wr.alloc (.cells #[.int .i64 0, .slice none 0 0, .slice none 0 0] 29)).drew:=((Fv wr.heap.size wr).alloc (Fu _) _).drew;generalize (wr.alloc (.cells #[.int .i64 0, .slice none 0 0, .slice none 0 0] 29)).drew=wa at*)
         refine hK.out _ _ ?_ (fun hHeld=> ?_)
         ·(try dsimp only);exact ⟨Ec bq k0,Ec bq k1,Ec bq k2,Ec bq k3,Ec bq pc⟩
         clear hK K
         try go_frame
         refine Zh 12 (fun K hK=> ?_)
         (try go_simp)
         have bq:=below_p3 bq hge (.int .i64 ff.1.n) (.slice A1 ff.1.b.length c1) (.slice A2 ff.1.items.length c2);obtain ⟨⟨z0,z1,z2⟩,y0,y1,y2⟩:=zB.c3;go_simp
         refine hK.out _ _ ?_ (fun hHeld=> ?_)
         ·(try dsimp only);exact ⟨Ec bq k0,Ec bq k1,Ec bq k2,Ec bq k3,Ec bq pc⟩
         clear hK K
         try go_frame
         refine Za 13 (some 15) hHeld _ ?_;try go_frame
         refine Za 14 (some 16) hHeld _ ?_;try go_frame
         refine wpAnyH_done (by kernel_rfl) ?_ _
         go_wp2_with fail
         go_meet
         exact ⟨ff.2.1,ff.2.2,rfl,rfl,Fs (fun h=> ⟨HFP.out.2 h,HFP.out.1.2⟩),bq⟩
        ·(try go_simp)
         have hge:=bq.size;first|(have zB:=Zo.new wq 29 #[.int .i64 0, .slice none 0 0, .slice none 0 0];have bq:=bq.alloc bq.size (.cells #[.int .i64 0, .slice none 0 0, .slice none 0 0] 29);generalize wq.alloc (.cells #[.int .i64 0, .slice none 0 0, .slice none 0 0] 29)=wa at*)|(have zB:Zo (wr.alloc (.cells #[.int .i64 0, .slice none 0 0, .slice none 0 0] 29)).drew wr.heap.size 29 #[.int .i64 0, .slice none 0 0, .slice none 0 0]:=Zo.new wr _ _;have bq:Below wr.heap.size wr (wr.alloc (.cells #[.int .i64 0, .slice none 0 0, .slice none 0 0] 29)).drew:=((Fv wr.heap.size wr).alloc (Fu _) _).drew;generalize (wr.alloc (.cells #[.int .i64 0, .slice none 0 0, .slice none 0 0] 29)).drew=wa at*)
         refine hK.out _ _ ?_ (fun hHeld=> ?_)
         ·(try dsimp only);exact ⟨Ec bq k0,Ec bq k1,Ec bq k2,Ec bq k3,Ec bq pc⟩
         clear hK K
         try go_frame
         refine Zh 6 (fun K hK=> ?_)
         go_simp
         refine (HFD.out _ bq).mono ?_;rintro e wq ⟨vv,rfl,hov,bel⟩;obtain ⟨A1,c1,A2,c2,rfl⟩:=hov.agg;clear hov;have bq:=Zb bel bq;(try have zB:=zB.below bel)
         (try go_wp2_with fail)
         refine hK.out _ _ ?_ (fun hHeld=> ?_)
         ·(try dsimp only);exact ⟨Ec bq k0,Ec bq k1,Ec bq k2,Ec bq k3,Ec bq pc⟩
         clear hK K
         try go_frame
         refine Za 7 (some 72) hHeld _ ?_;try go_frame
         refine Za 8 (some 80) hHeld _ ?_;try go_frame
         refine Za 9 (some 81) hHeld _ ?_;try go_frame
         refine Za 10 (some 82) hHeld _ ?_;try go_frame
         refine Zh 12 (fun K hK=> ?_)
         (try go_simp)
         have bq:=below_p3 bq hge (.int .i64 ff.1.n) (.slice A1 ff.1.b.length c1) (.slice A2 ff.1.items.length c2);obtain ⟨⟨z0,z1,z2⟩,y0,y1,y2⟩:=zB.c3;go_simp
         refine hK.out _ _ ?_ (fun hHeld=> ?_)
         ·(try dsimp only);exact ⟨Ec bq k0,Ec bq k1,Ec bq k2,Ec bq k3,Ec bq pc⟩
         clear hK K
         try go_frame
         refine Za 13 (some 15) hHeld _ ?_;try go_frame
         refine Za 14 (some 16) hHeld _ ?_;try go_frame
         refine wpAnyH_done (by kernel_rfl) ?_ _
         go_wp2_with fail
         go_meet
         exact ⟨ff.2.1,ff.2.2,rfl,rfl,Fs (fun h=> ⟨HFP.out.2 h,HFP.out.1.2⟩),bq⟩
       obtain ⟨r,okb,rfl,rfl,hro,bqc⟩:=hcut
       have HBC:=Fs (Zb bqc hb)
       have HC:=Fs (HR.out.below bqc)
       have k0:wc.cell? ⟨w1.heap.size,0,none⟩=some (.slice Ar L.length cr):=HC.out.dbox.cell 0 rfl
       have pc:=Ec bqc pc
       clear bqc hb hbs HFD HFP HR HPK
       cases okb with
       |false=>
        go_wp2
        go_roundw
        case rel=> exact ⟨k+1,S,by omega,by go_num,rfl,hS,HBC.out⟩
        case measure=> simp [intOf];omega
       |true=>
        obtain ⟨hr0,hrL⟩:=hro.out rfl
        obtain ⟨q,rfl⟩:=Int.eq_ofNat_of_zero_le hr0
        have hqL:q < L.length:=by omega
        obtain ⟨bR,oR,_,_,_,_,_,_,_,_,rfl, -, -, -, -, -, -, -, -, -,hrc⟩:=Zw HC.out.st.now.1 q hqL
        obtain ⟨-,q1, -⟩:=hrc wc fun _ _ _=> rfl
        clear hro hrc
        by_cases hkk:L[q].d.kind=Kd
        ·rw [hkk] at q1
         go_wp2
         go_roundw
         case rel=> exact ⟨k+1,p,by omega,by go_num,rfl,hps',HBC.out⟩
         case measure=> simp [intOf];omega
        ·generalize L[q].d.kind=kq at*
         have hke:(kq==Kd)=false:=by simp [hkk]
         go_wp2
         go_roundw
         case rel=> exact ⟨k+1,S,by omega,by go_num,rfl,hS,HBC.out⟩
         case measure=> simp [intOf];omega
      ·obtain rfl:k=P.length:=by omega
       have HBE:=Fs hbs
       clear hb hbs
       go_wp2
       go_meet
       exact ⟨S,rfl,hS,HBE.out⟩
   obtain ⟨S,rfl,hS,bqc⟩:=hcut
   have H7:=Fs (H6.out.below bqc)
   have HS7:=Fs (HS6.out.below bqc)
   have HX7:=Fs (show Ug x W2.heap.size w3.heap.size wc from ⟨HX6.out.own.keep fun g hg=> bqc.block g (HX6.out.own.lt g hg).2,HX6.out.nd,HX6.out.rng⟩)
   have hz6:=bqc.size
   clear bqc H6 HS6 HX6
   go_upto_if 99 with (go_at_call 21;refine (Vn b b v l 12 wc H7.out.cur (by omega) (by omega)).mono ?_;rintro e w8 ⟨⟨t2,rfl⟩,hg6,hzq,hc6⟩)
   have H8:=Fs (H7.out.step hg6 hc6)
   have HS8:=Fs (HS7.out.go hg6 (by omega))
   have HX8:=Fs (show Ug x W2.heap.size w3.heap.size w8 from ⟨HX7.out.own.keep fun g hg=> hg6.block g (HX7.out.own.lt g hg).2 (fun e=> by have e2:g=b:=Fz e;have:=(HX7.out.own.lt g hg).1;omega),HX7.out.nd,HX7.out.rng⟩)
   clear hzq hg6 hc6 H7 HS7 HX7
   go_cut [11] (fun s11 wx=> ∃z:VM,s11= .string S∧Hid (Gy b v l (.slice Ar L.length cr) L w w1.heap.size w3.heap.size z wx))
   case first=>
    cases t2 with
    |false=>
     go_wp2_with fail
     go_meet
     exact ⟨x,rfl,H8⟩
    |true=>
     have hBN:=l9Bent_any b v l x W2.heap.size w8 H8.out.cur HX8.out.own HX8.out.nd (by omega) (by have:=H8.out.vbox.lt;omega) (by have:=H8.out.size;omega)
     unfold Qs at hBN
     rw [HE5.out.1,HE5.out.2] at hBN
     have HBN:=Fs hBN
     have k1:w8.cell? ⟨w3.heap.size,0,none⟩=some (.int .i64 x.n):=H8.out.vbox.cell 0 rfl
     have k2:w8.cell? ⟨w3.heap.size,1,none⟩=some (.slice A5 x.b.length c5):=by rw [←HE5.out.1];exact H8.out.vbox.cell 1 rfl
     have k3:w8.cell? ⟨w3.heap.size,2,none⟩=some (.slice A6 x.items.length c6):=by rw [←HE5.out.2];exact H8.out.vbox.cell 2 rfl
     clear hBN
     go_wp2_with fail
     refine HBN.out.mono ?_
     rintro e w7 ⟨z,rfl,hzs,hzr,hzo,hzc⟩
     obtain ⟨A9,c9,e9, -⟩:=hzr.now.bytes.open_
     obtain ⟨A0,c0,e0, -⟩:=hzr.now.its.open_
     have HB7:=Fs (H8.out.bent (x':=z) HS8.out (by omega) (by omega) (by omega) (by omega) HX8.out (by omega) (by omega) hzr hzo hzc)
     unfold Qs
     rw [e9,e0]
     have HE0:=Fs (Ft e9 e0)
     clear k1 k2 k3 hzs hzr hzo hzc e9 e0
     obtain ⟨⟨k1,k2,k3⟩,kf1,kf2,kf3⟩:=Zo.c3 HB7.out.1
     go_wp2_with fail
     go_meet
     exact ⟨z,rfl,Fs (by rw [←HE0.out.1,←HE0.out.2];exact HB7.out.2)⟩
   obtain ⟨z,rfl,HZ⟩:=hcut
   obtain ⟨W9,hW9⟩:∃V,V=wc:=⟨_,rfl⟩
   rw [←hW9] at HZ ⊢
   clear hW9 H8 HS8 HX8
   skip
   skip
   have hF:=Xw (.slice Ar L.length cr) L z S W9.heap.size W9 HZ.out.st.now.1 (Fu _) HOK.out HSM.out HZ.out.st.now.2 (by have:=HZ.out.size;omega) (by omega)
   obtain ⟨A7,c7,e7, -⟩:=HZ.out.st.now.2.bytes.open_
   obtain ⟨A8,c8,e8, -⟩:=HZ.out.st.now.2.its.open_
   unfold Qs at hF
   rw [e7,e8] at hF
   have hFR:=Iy (D:=L.map RM.d) (x:=z.d) (ok:=Qt Zf S) (S:=Yr Zf S) (by rw [hlm];omega)
   rw [hlm] at hFR
   generalize Ya (L.map RM.d) z.d (Qt Zf S) (Yr Zf S)=ff at*
   have HF:=Fs hF
   have HFR:=Fs hFR
   have HE9:=Fs (Ft e7 e8)
   have k0:W9.cell? ⟨w1.heap.size,0,none⟩=some (.slice Ar L.length cr):=HZ.out.dbox.cell 0 rfl
   have k1:W9.cell? ⟨w3.heap.size,0,none⟩=some (.int .i64 z.n):=HZ.out.vbox.cell 0 rfl
   have k2:W9.cell? ⟨w3.heap.size,1,none⟩=some (.slice A7 z.b.length c7):=by rw [←e7];exact HZ.out.vbox.cell 1 rfl
   have k3:W9.cell? ⟨w3.heap.size,2,none⟩=some (.slice A8 z.items.length c8):=by rw [←e8];exact HZ.out.vbox.cell 2 rfl
   clear hF hFR e7 e8
   go_wp2_with fail
   refine HF.out.mono ?_
   rintro e w8 ⟨vv,rfl,hov,bel⟩
   obtain ⟨A1,c1,A2,c2,rfl⟩:=hov.agg
   obtain ⟨yn,hyn⟩:∃yn:Int,yn=ff.1.n:=⟨_,rfl⟩
   obtain ⟨W8,hW8⟩:∃W8,W8=w8.alloc (.cells #[.int .i64 ff.1.n, .slice A1 ff.1.b.length c1, .slice A2 ff.1.items.length c2] 29):=⟨_,rfl⟩
   have HY:=Fs (by rw [hW8];exact ((HZ.out.below bel).alloc _).drew:Gy b v l (.slice Ar L.length cr) L w w1.heap.size w3.heap.size z W8.drew)
   have k0:W8.cell? ⟨w1.heap.size,0,none⟩=some (.slice Ar L.length cr):=HY.out.dbox.cell 0 rfl
   have k1:W8.cell? ⟨w3.heap.size,0,none⟩=some (.int .i64 z.n):=HY.out.vbox.cell 0 rfl
   have k2:W8.cell? ⟨w3.heap.size,1,none⟩=some (.slice A7 z.b.length c7):=by rw [←HE9.out.1];exact HY.out.vbox.cell 1 rfl
   have k3:W8.cell? ⟨w3.heap.size,2,none⟩=some (.slice A8 z.items.length c8):=by rw [←HE9.out.2];exact HY.out.vbox.cell 2 rfl
   have r0:W8.cell? ⟨w.heap.size,0,none⟩=some (.slice none 0 0):=HY.out.res.cell 0 rfl
   have rf:W8.frozen? ⟨w.heap.size,0,none⟩=false:=HY.out.res.frozen 0
   obtain ⟨⟨p0,p1,p2⟩,g0,g1,g2⟩:=HY.out.req.c3
   clear hov bel HZ HF
   go_wp2_with fail
   rw [←hW8]
   clear hW8 hyn
   refine wp_region_held_drew (S:=(fun w9=> w9.cell? ⟨w1.heap.size,0,none⟩=some (.slice Ar L.length cr)∧w9.cell? ⟨w3.heap.size,0,none⟩=some (.int .i64 z.n)∧w9.cell? ⟨w3.heap.size,1,none⟩=some (.slice A7 z.b.length c7)∧w9.cell? ⟨w3.heap.size,2,none⟩=some (.slice A8 z.items.length c8))) (by kernel_rfl) ?_ (fun hHeld=> ?_)
   ·(try dsimp only);exact ⟨k0,k1,k2,k3⟩
   refine Za 0 (some 111) hHeld _ ?_;try go_frame
   refine Za 1 (some 112) hHeld _ ?_;try go_frame
   refine Za 2 (some 113) hHeld _ ?_;try go_frame
   refine Za 3 (some 114) hHeld _ ?_;try go_frame
   refine Zh 4 (fun K hK=> ?_)
   (try go_simp)
   obtain ⟨Y1,hY1⟩:∃V,V=(W8.setCell ⟨w.heap.size,0,none⟩ (.slice Ar L.length cr)).drew:=⟨_,rfl⟩;rw [←hY1];have kd:Zo Y1 w1.heap.size 26 #[.slice Ar L.length cr]:=(by rw [hY1];exact HY.out.dbox.other (by omega) _);have kv:Zo Y1 w3.heap.size 29 #[.int .i64 z.n,z.vb,z.vi]:=(by rw [hY1];exact HY.out.vbox.other (by omega) _);have kq:Zo Y1 (w.heap.size+1) 29 #[.int .i64 0, .slice none 0 0, .slice none 0 0]:=(by rw [hY1];exact HY.out.req.other (by omega) _);have HY1:=Fs hY1;clear hY1 k0 k1 k2 k3 p0 p1 p2 g0 g1 g2;have k0:Y1.cell? ⟨w1.heap.size,0,none⟩=some (.slice Ar L.length cr):=kd.cell 0 rfl;have k1:Y1.cell? ⟨w3.heap.size,0,none⟩=some (.int .i64 z.n):=kv.cell 0 rfl;have k2:Y1.cell? ⟨w3.heap.size,1,none⟩=some (.slice A7 z.b.length c7):=(by rw [←HE9.out.1];exact kv.cell 1 rfl);have k3:Y1.cell? ⟨w3.heap.size,2,none⟩=some (.slice A8 z.items.length c8):=(by rw [←HE9.out.2];exact kv.cell 2 rfl);obtain ⟨⟨p0,p1,p2⟩,g0,g1,g2⟩:=kq.c3
   refine hK.out _ _ ?_ (fun hHeld=> ?_)
   ·(try dsimp only);exact ⟨k0,k1,k2,k3⟩
   clear hK K
   try go_frame
   refine Zh 5 (fun K hK=> ?_)
   (try go_simp)
   obtain ⟨Y2,hY2⟩:∃V,V=((Y1.setCell ⟨w.heap.size+1,0,none⟩ (.int .i64 z.n)).setCell ⟨w.heap.size+1,1,none⟩ (.slice A7 z.b.length c7)).setCell ⟨w.heap.size+1,2,none⟩ (.slice A8 z.items.length c8):=⟨_,rfl⟩;rw [←hY2];have kd2:Zo Y2 w1.heap.size 26 #[.slice Ar L.length cr]:=(by rw [hY2];exact ((kd.other (by omega) _).other (by omega) _).other (by omega) _);have kv2:Zo Y2 w3.heap.size 29 #[.int .i64 z.n,z.vb,z.vi]:=(by rw [hY2];exact ((kv.other (by omega) _).other (by omega) _).other (by omega) _);have HY2:=Fs hY2;clear hY2 k0 k1 k2 k3 p0 p1 p2 g0 g1 g2;have k0:Y2.cell? ⟨w1.heap.size,0,none⟩=some (.slice Ar L.length cr):=kd2.cell 0 rfl;have k1:Y2.cell? ⟨w3.heap.size,0,none⟩=some (.int .i64 z.n):=kv2.cell 0 rfl;have k2:Y2.cell? ⟨w3.heap.size,1,none⟩=some (.slice A7 z.b.length c7):=(by rw [←HE9.out.1];exact kv2.cell 1 rfl);have k3:Y2.cell? ⟨w3.heap.size,2,none⟩=some (.slice A8 z.items.length c8):=(by rw [←HE9.out.2];exact kv2.cell 2 rfl)
   refine hK.out _ _ ?_ (fun hHeld=> ?_)
   ·(try dsimp only);exact ⟨k0,k1,k2,k3⟩
   clear hK K
   try go_frame
   refine Za 6 (some 6) hHeld _ ?_;try go_frame
   refine Za 7 (some 7) hHeld _ ?_;try go_frame
   refine wpAnyH_done (by kernel_rfl) ?_ _
   obtain ⟨Wf,hWf,hR,hQ,hgo,hcu,hst⟩:=HY.out.fin
   rw [HE9.out.1,HE9.out.2] at hWf hQ
   have hYf:Y2=Wf:=by rw [HY2.out,HY1.out,hWf];rfl
   rw [hYf]
   have t0:Wf.cell? ⟨w.heap.size,0,none⟩=some (.slice Ar L.length cr):=hR.cell 0 rfl
   obtain ⟨⟨t1,t2,t3⟩, -⟩:=hQ.c3
   clear k0 k1 k2 k3 r0 rf kd kv kq kd2 kv2 hYf hWf hHeld
   go_wp2
   exact bodyPost_ret (v:= .tuple #[.agg #[.slice Ar L.length cr], .agg #[.int .i64 z.n, .slice A7 z.b.length c7, .slice A8 z.items.length c8], .string S, .int .i64 ff.2.1]) (by simp [results,results20,go_sem,t0,t1,t2,t3]) rfl
    ⟨Ar,cr,L,z,S,ff.2.1,by unfold Qs;rw [HE9.out.1,HE9.out.2],HDR.out,hL1,by omega,HY.out.size,hS,HFR.out,hst,hgo,hcu⟩
structure DrS (vD:Value) (L:List RM) (w:World) (gd gv gy:Nat) (x y:VM) (W:World):Prop where
 bel:Below w.heap.size w W
 res:Zo W w.heap.size 26 #[.slice none 0 0]
 req:Zo W (w.heap.size+1) 29 #[.int .i64 0, .slice none 0 0, .slice none 0 0]
 rey:Zo W (w.heap.size+2) 29 #[.int .i64 0, .slice none 0 0, .slice none 0 0]
 dbox:Zo W gd 26 #[vD]
 vbox:Zo W gv 29 #[.int .i64 x.n,x.vb,x.vi]
 ybox:Zo W gy 29 #[.int .i64 y.n,y.vb,y.vi]
 st:Zy (w.heap.size+3) W.heap.size (fun W'=> Qz W' W.heap.size vD L∧x.rd W' W.heap.size∧y.rd W' W.heap.size) W
 hd:w.heap.size+3≤gd
 hv:w.heap.size+3≤gv
 hy:w.heap.size+3≤gy
theorem drew_set (W:World) (p:Addr) (u:Value):W.drew.setCell p u=(W.setCell p u).drew:=rfl
theorem Yq {B:Nat} {w W:World} (h:Below B w W) {q j:Nat} (hq:B≤q) (u:Value):Below B w (W.setCell ⟨q,j,none⟩ u):=h.setCell (p:=⟨q,j,none⟩) hq u
theorem DrS.fin {vD:Value} {L:List RM} {w W:World} {gd gv gy:Nat} {x y:VM} (h:DrS vD L w gd gv gy x y W):
  ∃Wf,Wf=((((((W.setCell ⟨w.heap.size,0,none⟩ vD).setCell ⟨w.heap.size+1,0,none⟩ (.int .i64 x.n)).setCell ⟨w.heap.size+1,1,none⟩ x.vb).setCell ⟨w.heap.size+1,2,none⟩ x.vi).setCell ⟨w.heap.size+2,0,none⟩ (.int .i64 y.n)).setCell ⟨w.heap.size+2,1,none⟩ y.vb).setCell ⟨w.heap.size+2,2,none⟩ y.vi∧
   Zo Wf w.heap.size 26 #[vD]∧Zo Wf (w.heap.size+1) 29 #[.int .i64 x.n,x.vb,x.vi]∧Zo Wf (w.heap.size+2) 29 #[.int .i64 y.n,y.vb,y.vi]∧Below w.heap.size w Wf∧Qz Wf Wf.heap.size vD L∧x.rd Wf Wf.heap.size∧y.rd Wf Wf.heap.size:=by
 refine ⟨_,rfl,?_,?_,?_,?_,?_⟩
 ·have:=((((((h.res.set 0 vD).other (q:=w.heap.size+1) (j:=0) (by omega) (.int .i64 x.n)).other (q:=w.heap.size+1) (j:=1) (by omega) x.vb).other (q:=w.heap.size+1) (j:=2) (by omega) x.vi).other (q:=w.heap.size+2) (j:=0) (by omega) (.int .i64 y.n)).other (q:=w.heap.size+2) (j:=1) (by omega) y.vb).other (q:=w.heap.size+2) (j:=2) (by omega) y.vi
  simpa using this
 ·have:=((((((h.req.other (q:=w.heap.size) (j:=0) (by omega) vD).set 0 (.int .i64 x.n)).set 1 x.vb).set 2 x.vi).other (q:=w.heap.size+2) (j:=0) (by omega) (.int .i64 y.n)).other (q:=w.heap.size+2) (j:=1) (by omega) y.vb).other (q:=w.heap.size+2) (j:=2) (by omega) y.vi
  simpa using this
 ·have:=((((((h.rey.other (q:=w.heap.size) (j:=0) (by omega) vD).other (q:=w.heap.size+1) (j:=0) (by omega) (.int .i64 x.n)).other (q:=w.heap.size+1) (j:=1) (by omega) x.vb).other (q:=w.heap.size+1) (j:=2) (by omega) x.vi).set 0 (.int .i64 y.n)).set 1 y.vb).set 2 y.vi
  simpa using this
 ·exact Yq (Yq (Yq (Yq (Yq (Yq (Yq h.bel (Fu _) _) (by omega) _) (by omega) _) (by omega) _) (by omega) _) (by omega) _) (by omega) _
 ·have:=h.st.2 (((((((W.setCell ⟨w.heap.size,0,none⟩ vD).setCell ⟨w.heap.size+1,0,none⟩ (.int .i64 x.n)).setCell ⟨w.heap.size+1,1,none⟩ x.vb).setCell ⟨w.heap.size+1,2,none⟩ x.vi).setCell ⟨w.heap.size+2,0,none⟩ (.int .i64 y.n)).setCell ⟨w.heap.size+2,1,none⟩ y.vb).setCell ⟨w.heap.size+2,2,none⟩ y.vi) (by simp [World.setCell]) fun k h1 h2=> by
   rw [Below.heap_setCell _ _ _ k (show k≠w.heap.size+2 by omega),Below.heap_setCell _ _ _ k (show k≠w.heap.size+2 by omega),Below.heap_setCell _ _ _ k (show k≠w.heap.size+2 by omega),Below.heap_setCell _ _ _ k (show k≠w.heap.size+1 by omega),Below.heap_setCell _ _ _ k (show k≠w.heap.size+1 by omega),Below.heap_setCell _ _ _ k (show k≠w.heap.size+1 by omega),Below.heap_setCell _ _ _ k (show k≠w.heap.size by omega)]
  have hsz:(((((((W.setCell ⟨w.heap.size,0,none⟩ vD).setCell ⟨w.heap.size+1,0,none⟩ (.int .i64 x.n)).setCell ⟨w.heap.size+1,1,none⟩ x.vb).setCell ⟨w.heap.size+1,2,none⟩ x.vi).setCell ⟨w.heap.size+2,0,none⟩ (.int .i64 y.n)).setCell ⟨w.heap.size+2,1,none⟩ y.vb).setCell ⟨w.heap.size+2,2,none⟩ y.vi).heap.size=W.heap.size:=by simp [World.setCell]
  rw [hsz]
  exact this
structure DrT (vD:Value) (L:List RM) (w:World) (gd gv:Nat) (x:VM) (W:World):Prop where
 bel:Below w.heap.size w W
 res:Zo W w.heap.size 26 #[.slice none 0 0]
 req:Zo W (w.heap.size+1) 29 #[.int .i64 0, .slice none 0 0, .slice none 0 0]
 dbox:Zo W gd 26 #[vD]
 vbox:Zo W gv 29 #[.int .i64 x.n,x.vb,x.vi]
 st:Zy (w.heap.size+2) W.heap.size (fun W'=> Qz W' W.heap.size vD L∧x.rd W' W.heap.size) W
 hd:w.heap.size+2≤gd
 hv:w.heap.size+2≤gv
theorem DrT.fin {vD:Value} {L:List RM} {w W:World} {gd gv:Nat} {x:VM} (h:DrT vD L w gd gv x W):
  ∃Wf,Wf=(((W.setCell ⟨w.heap.size,0,none⟩ vD).setCell ⟨w.heap.size+1,0,none⟩ (.int .i64 x.n)).setCell ⟨w.heap.size+1,1,none⟩ x.vb).setCell ⟨w.heap.size+1,2,none⟩ x.vi∧
   Zo Wf w.heap.size 26 #[vD]∧Zo Wf (w.heap.size+1) 29 #[.int .i64 x.n,x.vb,x.vi]∧Below w.heap.size w Wf∧Qz Wf Wf.heap.size vD L∧x.rd Wf Wf.heap.size:=by
 refine ⟨_,rfl,?_,?_,?_,?_⟩
 ·have:=(((h.res.set 0 vD).other (q:=w.heap.size+1) (j:=0) (by omega) (.int .i64 x.n)).other (q:=w.heap.size+1) (j:=1) (by omega) x.vb).other (q:=w.heap.size+1) (j:=2) (by omega) x.vi
  simpa using this
 ·have:=(((h.req.other (q:=w.heap.size) (j:=0) (by omega) vD).set 0 (.int .i64 x.n)).set 1 x.vb).set 2 x.vi
  simpa using this
 ·exact Yq (Yq (Yq (Yq h.bel (Fu _) _) (by omega) _) (by omega) _) (by omega) _
 ·have:=h.st.2 ((((W.setCell ⟨w.heap.size,0,none⟩ vD).setCell ⟨w.heap.size+1,0,none⟩ (.int .i64 x.n)).setCell ⟨w.heap.size+1,1,none⟩ x.vb).setCell ⟨w.heap.size+1,2,none⟩ x.vi) (by simp [World.setCell]) fun k h1 h2=> by
   rw [Below.heap_setCell _ _ _ k (show k≠w.heap.size+1 by omega),Below.heap_setCell _ _ _ k (show k≠w.heap.size+1 by omega),Below.heap_setCell _ _ _ k (show k≠w.heap.size+1 by omega),Below.heap_setCell _ _ _ k (show k≠w.heap.size by omega)]
  have hsz:((((W.setCell ⟨w.heap.size,0,none⟩ vD).setCell ⟨w.heap.size+1,0,none⟩ (.int .i64 x.n)).setCell ⟨w.heap.size+1,1,none⟩ x.vb).setCell ⟨w.heap.size+1,2,none⟩ x.vi).heap.size=W.heap.size:=by simp [World.setCell]
  rw [hsz]
  exact this
def DrawTE (more:Value→Prop) (w:World) (e:Ending) (w':World):Prop:=
 ∃(A:Option Addr) (c:Nat) (L:List RM) (x:VM) (S:ByteArray) (a:Value),e= .returned (.tuple #[.agg #[.slice A L.length c],Qs x, .string S,a])∧more a∧Ud (L.map RM.d)∧1≤L.length∧L.length≤9∧x.d.size≤589825∧S.size≤4096∧
  Qz w' w'.heap.size (.slice A L.length c) L∧x.rd w' w'.heap.size∧Below w.heap.size w w'
theorem rowTag {W:World} {B bR oR c:Nat} {L:List RM} (h:Qz W B (.slice (some ⟨bR,oR,none⟩) L.length c) L) (k:Nat) (hk:k < L.length):W.cell? ⟨bR,oR+k*8+6,none⟩=some L[k].vt:=by
 obtain ⟨b,off,A1,c1,A2,c2,A3,c3,A4,c4,hA, -, -, -,e3, -, -, -, -, -,hc⟩:=Zw h k hk
 injection hA with hA
 injection hA with h1 h2
 subst h1 h2
 obtain ⟨-, -, -, -, -, -,r6, -⟩:=hc W fun _ _ _=> rfl
 rw [e3];exact r6
theorem Ha (v:Value) (l:List UInt8) (w:World) (h:Xu w w.heap.size v l) (hl:l.length≤1048576):Calls prog 12 #[v] w (DrawTE (fun a=> ∃t:Int,a= .int .i64 t) w):=by
 obtain ⟨W0,hW0⟩:∃W0,W0=(w.alloc (.cells #[.slice none 0 0] 26)).alloc (.cells #[.int .i64 0, .slice none 0 0, .slice none 0 0] 29):=⟨_,rfl⟩
 have hb0:Below w.heap.size w W0:=by rw [hW0];exact ((Fv w.heap.size w).alloc (Fu _) _).alloc (by simp) _
 have hz0:w.heap.size+2≤W0.heap.size:=by rw [hW0];simp
 have R0:Zo W0 w.heap.size 26 #[.slice none 0 0]:=by rw [hW0];exact (Zo.new w _ _).alloc _
 have Q0:Zo W0 (w.heap.size+1) 29 #[.int .i64 0, .slice none 0 0, .slice none 0 0]:=by rw [hW0];have:=Zo.new (w.alloc (.cells #[.slice none 0 0] 26)) 29 #[.int .i64 0, .slice none 0 0, .slice none 0 0];simpa using this
 have H0:=Fs (Ft (h.below hb0) (Ft hb0 (Ft R0 Q0)))
 clear h hb0 R0 Q0
 go_enter func12,ntmps12
 go_upto_region 1 with fail
 rw [←hW0]
 clear hW0
 go_wp2_with fail
 refine (Gk v l w.heap.size W0 H0.out.1 hl).mono ?_
 rintro e w1 ⟨rfl,xc,rfl⟩
 obtain ⟨W1,hW1⟩:∃W1,W1=W0.alloc (.cells #[v, .int .i64 0, .int .i64 xc] 72):=⟨_,rfl⟩
 rw [←hW1]
 have h01:Below W0.heap.size W0 W1:=by rw [hW1];exact (Fv _ _).alloc (Fu _) _
 have hc1:Qo W0.heap.size v l W1:=by rw [hW1];exact ⟨(Xu.more (B':=W0.heap.size) H0.out.1 (by omega)).below ((Fv _ _).alloc (Fu _) _),cur_new⟩
 have H1:=Fs (Ft hc1 (Ft (Zb h01 H0.out.2.1) (Ft (H0.out.2.2.1.below h01) (H0.out.2.2.2.below h01))))
 have hz1:W0.heap.size < W1.heap.size:=hc1.lt
 clear hW1 h01 hc1 H0
 go_wp2_with fail
 refine (l22One_k W0.heap.size v l 7 W1 H1.out.1 (by omega) (by omega)).mono ?_
 rintro e w2 ⟨A,c,L,x,S,r,rfl,hdr,hl1,hl9,hxs,hSs,⟨hr1,hr2⟩,hst,hgo,hcu⟩
 obtain ⟨A5,c5,e5, -⟩:=hst.now.2.bytes.open_
 obtain ⟨A6,c6,e6, -⟩:=hst.now.2.its.open_
 unfold Qs
 rw [e5,e6]
 obtain ⟨W3,hW3⟩:∃W3,W3=(w2.alloc (.cells #[.slice A L.length c] 26)).alloc (.cells #[.int .i64 x.n, .slice A5 x.b.length c5, .slice A6 x.items.length c6] 29):=⟨_,rfl⟩
 have h23:Below w2.heap.size w2 W3:=by rw [hW3];exact ((Fv w2.heap.size w2).alloc (Fu _) _).alloc (by simp) _
 have D3:Zo W3 w2.heap.size 26 #[.slice A L.length c]:=by rw [hW3];exact (Zo.new w2 _ _).alloc _
 have V3:Zo W3 (w2.heap.size+1) 29 #[.int .i64 x.n,x.vb,x.vi]:=by rw [hW3,e5,e6];have:=Zo.new (w2.alloc (.cells #[.slice A L.length c] 26)) 29 #[.int .i64 x.n, .slice A5 x.b.length c5, .slice A6 x.items.length c6];simpa using this
 have hz2:=hgo.size
 have hgo3:=hgo.trans (Qx.of_below h23)
 have hz3:w2.heap.size+1 < W3.heap.size:=V3.lt
 have H3:=Fs (Ft (hgo3.below H1.out.2.1 (by have:=H1.out.2.1.size;omega) (by omega)) (Ft (H1.out.2.2.1.go hgo3 (by omega)) (Ft (H1.out.2.2.2.go hgo3 (by omega)) (Ft D3 V3))))
 have HS3:=Fs (hst.below h23)
 have HC3:=Fs (hcu.below h23)
 have HDR:=Fs hdr
 have HE5:=Fs (Ft e5 e6)
 have hlm:(L.map RM.d).length=L.length:=List.length_map ..
 have HN:=Fs (show ∀W,Qx W0.heap.size W3 W→DrT (.slice A L.length c) L w w2.heap.size (w2.heap.size+1) x W from fun W hg=> by
  have hgs:=hg.size
  refine ⟨hg.below H3.out.1 (by have:=H3.out.1.size;omega) (by omega),H3.out.2.1.go hg (by omega),H3.out.2.2.1.go hg (by omega),H3.out.2.2.2.1.go hg (by omega),H3.out.2.2.2.2.go hg (by omega),⟨Fu _,fun W' h1 k1=> ?_⟩,by omega,by omega⟩
  have:=(HS3.out.go hg (by omega)).2 W' h1 fun k q1 q2=> k1 k (by omega) (by omega)
  exact ⟨this.1.more (by omega),this.2.more (by omega)⟩)
 clear hst hgo hcu hgo3 h23 D3 V3 H1 hdr e5 e6
 go_upto_region 3 with fail
 rw [←hW3]
 clear hW3
 go_wp2_with fail
 refine (Qn W0.heap.size W0.heap.size v l 14 W3 HC3.out (by omega) (by omega)).mono ?_
 rintro e w4 ⟨⟨z,rfl,hz0',hz1'⟩,hs,hzq,hc4⟩
 have HG4:=Fs hs
 have HC4:=Fs hc4
 have hz4:=hs.size
 clear hs hzq hc4 HC3
 go_upto_region 4 with fail
 go_cut [40] (fun s40 wx=> ∃t:Bool,s40= .bool t∧Hid (t=true→0≤r∧∃k:Nat,∃h:k < L.length,r=k∧0 < L[k].d.tags.length)∧Qx W0.heap.size W3 wx∧Qo W0.heap.size v l wx)
 case first=>
  by_cases hr0:0≤r
  ·obtain ⟨k,rfl⟩:=Int.eq_ofNat_of_zero_le hr0
   have hkl:k < L.length:=by omega
   have hdk:decide ((0:Int)≤(k:Int))=true:=Fy hr0
   have hsd:=(HS3.out.go HG4.out (by omega)).now.1
   obtain ⟨bR,oR,_,_,_,_,A3,c3,_,_,rfl, -, -, -,e3, -⟩:=Zw hsd k hkl
   have q6:=rowTag hsd k hkl
   rw [e3] at q6
   have k0:w4.cell? ⟨w2.heap.size,0,none⟩=some (.slice (some ⟨bR,oR,none⟩) L.length c):=(H3.out.2.2.2.1.go HG4.out (by omega)).cell 0 rfl
   clear hsd e3
   by_cases hkk:0 < L[k].d.tags.length
   ·have HKK:=Fs (show ∃k':Nat,∃h:k' < L.length,(k:Int)=k'∧0 < L[k'].d.tags.length from ⟨k,hkl,rfl,hkk⟩)
    have hki:decide ((0:Int) < (L[k].d.tags.length:Int))=true:=Fy (by omega)
    go_wp2_with fail
    refine (Vn W0.heap.size W0.heap.size v l 4 w4 HC4.out (by omega) (by omega)).mono ?_
    rintro e w6 ⟨⟨t,rfl⟩,hg6,hzq,hc6⟩
    have HG6:=Fs (Ft (HG4.out.trans hg6) hc6)
    clear hzq hg6 hc6
    go_wp2
    go_meet
    exact ⟨_,rfl,Fs fun _=> ⟨hr0,HKK.out⟩,HG6.out⟩
   ·have hki:decide ((0:Int) < (L[k].d.tags.length:Int))=false:=Fx (by omega)
    go_wp2
    go_meet
    exact ⟨false,rfl,Fs fun e=> (by cases e),HG4.out,HC4.out⟩
  ·have hdk:decide ((0:Int)≤r)=false:=Fx hr0
   go_wp2
   go_meet
   exact ⟨false,rfl,Fs fun e=> (by cases e),HG4.out,HC4.out⟩
 obtain ⟨t,rfl,hkt,hg6,hc6⟩:=hcut
 obtain ⟨w6,hw6⟩:∃V,V=wc:=⟨_,rfl⟩
 rw [←hw6] at hg6 hc6 ⊢
 clear hw6 HG4 HC4
 have HG6:=Fs hg6
 have hz6:=hg6.size
 have HC6:=Fs hc6
 clear hg6 hc6
 go_upto_if 40 with fail
 go_cut [11] (fun s11 wx=> ∃a:Int,s11= .int .i64 a∧Qx W0.heap.size W3 wx∧Qo W0.heap.size v l wx)
 case first=>
  cases t with
  |false=>
   go_wp2
   go_meet
   exact ⟨_,rfl,HG6.out,HC6.out⟩
  |true=>
   obtain ⟨hr0,k,hkl,rfl,ht0⟩:=hkt.out rfl
   have RU:=HDR.out.ruK (by rw [hlm];omega) (show k < (L.map RM.d).length by rw [hlm];exact hkl)
   have hge:(L.map RM.d)[k]'(by rw [hlm];exact hkl)=L[k].d:=List.getElem_map ..
   have ht3:=RU.lens.2.2.1
   rw [hge] at ht3
   have hsa:Zy W1.heap.size w2.heap.size (fun W=> Qz W w2.heap.size (.slice A L.length c) L) w6:=(HS3.out.go HG6.out (by omega)).imp fun _ h=> h.1
   obtain ⟨bR,oR,A1,c1,A2,c2,A3,c3,A4,c4,rfl, -, -, -,e3, -⟩:=Zw hsa.now k hkl
   obtain ⟨bt,ft,rfl, -, -⟩:=tagS hsa hkl e3 ht0
   have HTT:=Fs (show ∀j (hj:j < L[k].d.tags.length) W,Zy W1.heap.size w2.heap.size (fun W=> Qz W w2.heap.size (.slice (some ⟨bR,oR,none⟩) L.length c) L) W→W.cell? ⟨bt,ft+j,none⟩=some (.int .i64 L[k].d.tags[j]) from fun j hj W hW=> by
    obtain ⟨bb,ff,hA, -,hc⟩:=tagS hsa hkl e3 hj
    injection hA with hA
    injection hA with h1 h2
    subst h1 h2
    exact hc W hW)
   have HQ:=Fs (show ∀W,Zy W1.heap.size w2.heap.size (fun W=> Qz W w2.heap.size (.slice (some ⟨bR,oR,none⟩) L.length c) L) W→W.cell? ⟨bR,oR+k*8+6,none⟩=some (.slice (some ⟨bt,ft,none⟩) L[k].d.tags.length c3) from fun W hW=> by rw [←e3];exact rowTag hW.now k hkl)
   have HSA:=Fs hsa
   have k0:w6.cell? ⟨w2.heap.size,0,none⟩=some (.slice (some ⟨bR,oR,none⟩) L.length c):=(H3.out.2.2.2.1.go HG6.out (by omega)).cell 0 rfl
   have q6:=HQ.out w6 hsa
   clear hsa e3 RU hge hkt
   go_wp2_with fail
   refine wp_region_held_drew (S:=(fun w9=> w9.cell? ⟨w2.heap.size,0,none⟩=some (.slice (some ⟨bR,oR,none⟩) L.length c)∧w9.cell? ⟨bR,oR+k*8+6,none⟩=some (.slice (some ⟨bt,ft,none⟩) L[k].d.tags.length c3))) (by kernel_rfl) ?_ (fun hHeld=> ?_)
   ·(try dsimp only);exact ⟨k0,q6⟩
   refine Za 0 (some 41) hHeld _ ?_;try go_frame
   refine Za 1 (some 42) hHeld _ ?_;try go_frame
   refine Za 2 (some 43) hHeld _ ?_;try go_frame
   refine Za 3 (some 44) hHeld _ ?_;try go_frame
   refine Za 4 (some 45) hHeld _ ?_;try go_frame
   refine Za 5 (some 46) hHeld _ ?_;try go_frame
   refine Za 6 (some 47) hHeld _ ?_;try go_frame
   refine Za 7 (some 48) hHeld _ ?_;try go_frame
   refine Za 8 (some 49) hHeld _ ?_;try go_frame
   refine Za 9 (some 50) hHeld _ ?_;try go_frame
   refine Za 10 (some 51) hHeld _ ?_;try go_frame
   refine Za 11 (some 52) hHeld _ ?_;try go_frame
   refine Za 12 (some 53) hHeld _ ?_;try go_frame
   refine Za 13 (some 54) hHeld _ ?_;try go_frame
   refine Zh 14 (fun K hK=> ?_)
   go_simp
   refine (Qn W0.heap.size W0.heap.size v l L[k].d.tags.length w6.drew HC6.out.drew (by omega) (by omega)).mono ?_;rintro e W9 ⟨⟨zz,rfl,hy0,hy1⟩,hs,hzq,hc⟩;have hs:Qx W0.heap.size w6 W9:=(Qx.of_below (Fv _ _).drew).trans hs;obtain ⟨j,rfl⟩:=Int.eq_ofNat_of_zero_le hy0;have hjl:j < L[k].d.tags.length:=(by omega);have hS9:=HSA.out.go hs (by omega);clear k0 q6;have k0:W9.cell? ⟨w2.heap.size,0,none⟩=some (.slice (some ⟨bR,oR,none⟩) L.length c):=((H3.out.2.2.2.1.go HG6.out (by omega)).go hs (by omega)).cell 0 rfl;have q6:=HQ.out W9 hS9;have qj:=HTT.out j hjl W9 hS9;have H9:=Fs (Ft (HG6.out.trans hs) hc);clear hs hzq hc hS9
   (try go_wp2_with fail)
   refine hK.out _ _ ?_ (fun hHeld=> ?_)
   ·(try dsimp only);exact ⟨k0,q6⟩
   clear hK K
   try go_frame
   refine Za 15 (some 56) hHeld _ ?_;try go_frame
   refine Zh 16 (fun K hK=> ?_)
   (try go_simp)
   go_simp
   refine hK.out _ _ ?_ (fun hHeld=> ?_)
   ·(try dsimp only);exact ⟨k0,q6⟩
   clear hK K
   try go_frame
   refine Za 17 (some 11) hHeld _ ?_;try go_frame
   refine wpAnyH_done (by kernel_rfl) ?_ _
   clear k0 q6 qj hHeld
   go_wp2_with fail
   go_meet
   exact ⟨_,rfl,H9.out⟩
 obtain ⟨a,rfl,hg9,hc9⟩:=hcut
 obtain ⟨w9,hw9⟩:∃V,V=wc:=⟨_,rfl⟩
 rw [←hw9] at hg9 hc9 ⊢
 clear hw9 hkt HG6 HC6 hc9
 have HZ:=Fs (HN.out w9 hg9)
 clear hg9 HN HS3 H3
 have kd:Zo w9 w2.heap.size 26 #[.slice A L.length c]:=HZ.out.dbox
 have kv:Zo w9 (w2.heap.size+1) 29 #[.int .i64 x.n, .slice A5 x.b.length c5, .slice A6 x.items.length c6]:=by rw [←HE5.out.1,←HE5.out.2];exact HZ.out.vbox
 have k0:w9.cell? ⟨w2.heap.size,0,none⟩=some (.slice A L.length c):=kd.cell 0 rfl
 obtain ⟨⟨k1,k2,k3⟩, -⟩:=kv.c3
 have r0:w9.cell? ⟨w.heap.size,0,none⟩=some (.slice none 0 0):=HZ.out.res.cell 0 rfl
 have rf:w9.frozen? ⟨w.heap.size,0,none⟩=false:=HZ.out.res.frozen 0
 go_wp2_with fail
 refine wp_region_held_drew (S:=(fun w9=> w9.cell? ⟨w2.heap.size,0,none⟩=some (.slice A L.length c)∧w9.cell? ⟨w2.heap.size+1,0,none⟩=some (.int .i64 x.n)∧w9.cell? ⟨w2.heap.size+1,1,none⟩=some (.slice A5 x.b.length c5)∧w9.cell? ⟨w2.heap.size+1,2,none⟩=some (.slice A6 x.items.length c6))) (by kernel_rfl) ?_ (fun hHeld=> ?_)
 ·(try dsimp only);exact ⟨k0,k1,k2,k3⟩
 refine Za 0 (some 58) hHeld _ ?_;try go_frame
 refine Za 1 (some 59) hHeld _ ?_;try go_frame
 refine Za 2 (some 60) hHeld _ ?_;try go_frame
 refine Za 3 (some 61) hHeld _ ?_;try go_frame
 refine Zh 4 (fun K hK=> ?_)
 (try go_simp)
 obtain ⟨Y1,hY⟩:∃V,V=(w9.setCell ⟨w.heap.size,0,none⟩ (.slice A L.length c)).drew:=⟨_,rfl⟩;rw [←hY];have kd:Zo Y1 w2.heap.size 26 #[.slice A L.length c]:=(by rw [hY];exact kd.other (by omega) _);have kv:Zo Y1 (w2.heap.size+1) 29 #[.int .i64 x.n, .slice A5 x.b.length c5, .slice A6 x.items.length c6]:=(by rw [hY];exact kv.other (by omega) _);have kq:Zo Y1 (w.heap.size+1) 29 #[.int .i64 0, .slice none 0 0, .slice none 0 0]:=(by rw [hY];exact HZ.out.req.other (by omega) _);have HY1:=Fs hY;clear hY k0 k1 k2 k3;have k0:Y1.cell? ⟨w2.heap.size,0,none⟩=some (.slice A L.length c):=kd.cell 0 rfl;obtain ⟨⟨k1,k2,k3⟩, -⟩:=kv.c3;obtain ⟨⟨p0,p1,p2⟩,g0,g1,g2⟩:=kq.c3
 refine hK.out _ _ ?_ (fun hHeld=> ?_)
 ·(try dsimp only);exact ⟨k0,k1,k2,k3⟩
 clear hK K
 try go_frame
 refine Zh 5 (fun K hK=> ?_)
 (try go_simp)
 obtain ⟨Y2,hY⟩:∃V,V=((Y1.setCell ⟨w.heap.size+1,0,none⟩ (.int .i64 x.n)).setCell ⟨w.heap.size+1,1,none⟩ (.slice A5 x.b.length c5)).setCell ⟨w.heap.size+1,2,none⟩ (.slice A6 x.items.length c6):=⟨_,rfl⟩;rw [←hY];have kd:Zo Y2 w2.heap.size 26 #[.slice A L.length c]:=(by rw [hY];exact ((kd.other (by omega) _).other (by omega) _).other (by omega) _);have kv:Zo Y2 (w2.heap.size+1) 29 #[.int .i64 x.n, .slice A5 x.b.length c5, .slice A6 x.items.length c6]:=(by rw [hY];exact ((kv.other (by omega) _).other (by omega) _).other (by omega) _);clear p0 p1 p2 g0 g1 g2;have HY2:=Fs hY;clear hY k0 k1 k2 k3;have k0:Y2.cell? ⟨w2.heap.size,0,none⟩=some (.slice A L.length c):=kd.cell 0 rfl;obtain ⟨⟨k1,k2,k3⟩, -⟩:=kv.c3
 refine hK.out _ _ ?_ (fun hHeld=> ?_)
 ·(try dsimp only);exact ⟨k0,k1,k2,k3⟩
 clear hK K
 try go_frame
 refine Za 6 (some 4) hHeld _ ?_;try go_frame
 refine Za 7 (some 5) hHeld _ ?_;try go_frame
 refine wpAnyH_done (by kernel_rfl) ?_ _
 obtain ⟨Wf,hWf,hR,hQ,hbel,hdd,hxx⟩:=HZ.out.fin
 rw [HE5.out.1,HE5.out.2] at hWf hQ
 have hYf:Y2=Wf.drew:=by rw [HY2.out,HY1.out,hWf];simp only [drew_set]
 rw [hYf]
 have t0:Wf.drew.cell? ⟨w.heap.size,0,none⟩=some (.slice A L.length c):=hR.cell 0 rfl
 obtain ⟨⟨t1,t2,t3⟩, -⟩:=(show Zo Wf.drew _ _ _ from hQ).c3
 clear k0 k1 k2 k3 r0 rf kd kv kq hYf hWf hHeld
 go_wp2
 exact bodyPost_ret (v:= .tuple #[.agg #[.slice A L.length c], .agg #[.int .i64 x.n, .slice A5 x.b.length c5, .slice A6 x.items.length c6], .string S, .int .i64 a]) (by simp [results,results12,go_sem,t0,t1,t2,t3]) rfl
  ⟨A,c,L,x,S, .int .i64 a,by unfold Qs;rw [HE5.out.1,HE5.out.2],⟨a,rfl⟩,HDR.out,hl1,hl9,hxs,hSs,hdd.below (Fv _ _).drew,hxx.bel (Fv _ _).drew,hbel.drew⟩
theorem Hc (v:Value) (l:List UInt8) (w:World) (h:Xu w w.heap.size v l) (hl:l.length≤1048576):Calls prog 16 #[v] w (DrawTE (fun a=> ∃t:Bool,a= .bool t) w):=by
 obtain ⟨W0,hW0⟩:∃W0,W0=(w.alloc (.cells #[.slice none 0 0] 26)).alloc (.cells #[.int .i64 0, .slice none 0 0, .slice none 0 0] 29):=⟨_,rfl⟩
 have hb0:Below w.heap.size w W0:=by rw [hW0];exact ((Fv w.heap.size w).alloc (Fu _) _).alloc (by simp) _
 have hz0:w.heap.size+2≤W0.heap.size:=by rw [hW0];simp
 have R0:Zo W0 w.heap.size 26 #[.slice none 0 0]:=by rw [hW0];exact (Zo.new w _ _).alloc _
 have Q0:Zo W0 (w.heap.size+1) 29 #[.int .i64 0, .slice none 0 0, .slice none 0 0]:=by rw [hW0];have:=Zo.new (w.alloc (.cells #[.slice none 0 0] 26)) 29 #[.int .i64 0, .slice none 0 0, .slice none 0 0];simpa using this
 have H0:=Fs (Ft (h.below hb0) (Ft hb0 (Ft R0 Q0)))
 clear h hb0 R0 Q0
 go_enter func16,ntmps16
 go_upto_region 1 with fail
 rw [←hW0]
 clear hW0
 go_wp2_with fail
 refine (Gk v l w.heap.size W0 H0.out.1 hl).mono ?_
 rintro e w1 ⟨rfl,xc,rfl⟩
 obtain ⟨W1,hW1⟩:∃W1,W1=W0.alloc (.cells #[v, .int .i64 0, .int .i64 xc] 72):=⟨_,rfl⟩
 rw [←hW1]
 have h01:Below W0.heap.size W0 W1:=by rw [hW1];exact (Fv _ _).alloc (Fu _) _
 have hc1:Qo W0.heap.size v l W1:=by rw [hW1];exact ⟨(Xu.more (B':=W0.heap.size) H0.out.1 (by omega)).below ((Fv _ _).alloc (Fu _) _),cur_new⟩
 have H1:=Fs (Ft hc1 (Ft (Zb h01 H0.out.2.1) (Ft (H0.out.2.2.1.below h01) (H0.out.2.2.2.below h01))))
 have hz1:W0.heap.size < W1.heap.size:=hc1.lt
 clear hW1 h01 hc1 H0
 go_wp2_with fail
 refine (l22One_k W0.heap.size v l 8 W1 H1.out.1 (by omega) (by omega)).mono ?_
 rintro e w2 ⟨A,c,L,x,S,r,rfl,hdr,hl1,hl9,hxs,hSs,⟨hr1,hr2⟩,hst,hgo,hcu⟩
 obtain ⟨A5,c5,e5, -⟩:=hst.now.2.bytes.open_
 obtain ⟨A6,c6,e6, -⟩:=hst.now.2.its.open_
 unfold Qs
 rw [e5,e6]
 obtain ⟨W3,hW3⟩:∃W3,W3=(w2.alloc (.cells #[.slice A L.length c] 26)).alloc (.cells #[.int .i64 x.n, .slice A5 x.b.length c5, .slice A6 x.items.length c6] 29):=⟨_,rfl⟩
 have h23:Below w2.heap.size w2 W3:=by rw [hW3];exact ((Fv w2.heap.size w2).alloc (Fu _) _).alloc (by simp) _
 have D3:Zo W3 w2.heap.size 26 #[.slice A L.length c]:=by rw [hW3];exact (Zo.new w2 _ _).alloc _
 have V3:Zo W3 (w2.heap.size+1) 29 #[.int .i64 x.n,x.vb,x.vi]:=by rw [hW3,e5,e6];have:=Zo.new (w2.alloc (.cells #[.slice A L.length c] 26)) 29 #[.int .i64 x.n, .slice A5 x.b.length c5, .slice A6 x.items.length c6];simpa using this
 have hz2:=hgo.size
 have hgo3:=hgo.trans (Qx.of_below h23)
 have hz3:w2.heap.size+1 < W3.heap.size:=V3.lt
 have H3:=Fs (Ft (hgo3.below H1.out.2.1 (by have:=H1.out.2.1.size;omega) (by omega)) (Ft (H1.out.2.2.1.go hgo3 (by omega)) (Ft (H1.out.2.2.2.go hgo3 (by omega)) (Ft D3 V3))))
 have HS3:=Fs (hst.below h23)
 have HC3:=Fs (hcu.below h23)
 have HDR:=Fs hdr
 have HE5:=Fs (Ft e5 e6)
 have hlm:(L.map RM.d).length=L.length:=List.length_map ..
 have HN:=Fs (show ∀W,Qx W0.heap.size W3 W→DrT (.slice A L.length c) L w w2.heap.size (w2.heap.size+1) x W from fun W hg=> by
  have hgs:=hg.size
  refine ⟨hg.below H3.out.1 (by have:=H3.out.1.size;omega) (by omega),H3.out.2.1.go hg (by omega),H3.out.2.2.1.go hg (by omega),H3.out.2.2.2.1.go hg (by omega),H3.out.2.2.2.2.go hg (by omega),⟨Fu _,fun W' h1 k1=> ?_⟩,by omega,by omega⟩
  have:=(HS3.out.go hg (by omega)).2 W' h1 fun k q1 q2=> k1 k (by omega) (by omega)
  exact ⟨this.1.more (by omega),this.2.more (by omega)⟩)
 clear hst hgo hcu hgo3 h23 D3 V3 H1 hdr e5 e6
 go_upto_region 3 with fail
 rw [←hW3]
 clear hW3
 have kd:Zo W3 w2.heap.size 26 #[.slice A L.length c]:=H3.out.2.2.2.1
 have kv:Zo W3 (w2.heap.size+1) 29 #[.int .i64 x.n, .slice A5 x.b.length c5, .slice A6 x.items.length c6]:=by rw [←HE5.out.1,←HE5.out.2];exact H3.out.2.2.2.2
 have k0:W3.cell? ⟨w2.heap.size,0,none⟩=some (.slice A L.length c):=kd.cell 0 rfl
 obtain ⟨⟨k1,k2,k3⟩, -⟩:=kv.c3
 clear kd kv H3 HS3
 go_wp2_with fail
 refine wp_region_held_drew (S:=(fun w9=> w9.cell? ⟨w2.heap.size,0,none⟩=some (.slice A L.length c)∧w9.cell? ⟨w2.heap.size+1,0,none⟩=some (.int .i64 x.n)∧w9.cell? ⟨w2.heap.size+1,1,none⟩=some (.slice A5 x.b.length c5)∧w9.cell? ⟨w2.heap.size+1,2,none⟩=some (.slice A6 x.items.length c6))) (by kernel_rfl) ?_ (fun hHeld=> ?_)
 ·(try dsimp only);exact ⟨k0,k1,k2,k3⟩
 refine Za 0 (some 20) hHeld _ ?_;try go_frame
 refine Za 1 (some 21) hHeld _ ?_;try go_frame
 refine Za 2 (some 22) hHeld _ ?_;try go_frame
 refine Za 3 (some 23) hHeld _ ?_;try go_frame
 refine Zh 4 (fun K hK=> ?_)
 go_simp
 refine (Vn W0.heap.size W0.heap.size v l 2 W3.drew HC3.out.drew (by omega) (by omega)).mono ?_;rintro e W9 ⟨⟨t,rfl⟩,hs,hzq,hc⟩;have hs:Qx W0.heap.size W3 W9:=(Qx.of_below (Fv _ _).drew).trans hs;have HZ:=Fs (HN.out W9 hs);clear hs hzq hc k0 k1 k2 k3;have kd:Zo W9 w2.heap.size 26 #[.slice A L.length c]:=HZ.out.dbox;have kv:Zo W9 (w2.heap.size+1) 29 #[.int .i64 x.n, .slice A5 x.b.length c5, .slice A6 x.items.length c6]:=(by rw [←HE5.out.1,←HE5.out.2];exact HZ.out.vbox);have k0:W9.cell? ⟨w2.heap.size,0,none⟩=some (.slice A L.length c):=kd.cell 0 rfl;obtain ⟨⟨k1,k2,k3⟩, -⟩:=kv.c3;have r0:W9.cell? ⟨w.heap.size,0,none⟩=some (.slice none 0 0):=HZ.out.res.cell 0 rfl;have rf:W9.frozen? ⟨w.heap.size,0,none⟩=false:=HZ.out.res.frozen 0
 (try go_wp2_with fail)
 refine hK.out _ _ ?_ (fun hHeld=> ?_)
 ·(try dsimp only);exact ⟨k0,k1,k2,k3⟩
 clear hK K
 try go_frame
 refine Zh 5 (fun K hK=> ?_)
 (try go_simp)
 obtain ⟨Y1,hY⟩:∃V,V=W9.setCell ⟨w.heap.size,0,none⟩ (.slice A L.length c):=⟨_,rfl⟩;rw [←hY];have kd:Zo Y1 w2.heap.size 26 #[.slice A L.length c]:=(by rw [hY];exact kd.other (by omega) _);have kv:Zo Y1 (w2.heap.size+1) 29 #[.int .i64 x.n, .slice A5 x.b.length c5, .slice A6 x.items.length c6]:=(by rw [hY];exact kv.other (by omega) _);have kq:Zo Y1 (w.heap.size+1) 29 #[.int .i64 0, .slice none 0 0, .slice none 0 0]:=(by rw [hY];exact HZ.out.req.other (by omega) _);have HY1:=Fs hY;clear hY k0 k1 k2 k3;have k0:Y1.cell? ⟨w2.heap.size,0,none⟩=some (.slice A L.length c):=kd.cell 0 rfl;obtain ⟨⟨k1,k2,k3⟩, -⟩:=kv.c3;obtain ⟨⟨p0,p1,p2⟩,g0,g1,g2⟩:=kq.c3
 refine hK.out _ _ ?_ (fun hHeld=> ?_)
 ·(try dsimp only);exact ⟨k0,k1,k2,k3⟩
 clear hK K
 try go_frame
 refine Zh 6 (fun K hK=> ?_)
 (try go_simp)
 obtain ⟨Y2,hY⟩:∃V,V=((Y1.setCell ⟨w.heap.size+1,0,none⟩ (.int .i64 x.n)).setCell ⟨w.heap.size+1,1,none⟩ (.slice A5 x.b.length c5)).setCell ⟨w.heap.size+1,2,none⟩ (.slice A6 x.items.length c6):=⟨_,rfl⟩;rw [←hY];have kd:Zo Y2 w2.heap.size 26 #[.slice A L.length c]:=(by rw [hY];exact ((kd.other (by omega) _).other (by omega) _).other (by omega) _);have kv:Zo Y2 (w2.heap.size+1) 29 #[.int .i64 x.n, .slice A5 x.b.length c5, .slice A6 x.items.length c6]:=(by rw [hY];exact ((kv.other (by omega) _).other (by omega) _).other (by omega) _);clear p0 p1 p2 g0 g1 g2;have HY2:=Fs hY;clear hY k0 k1 k2 k3;have k0:Y2.cell? ⟨w2.heap.size,0,none⟩=some (.slice A L.length c):=kd.cell 0 rfl;obtain ⟨⟨k1,k2,k3⟩, -⟩:=kv.c3
 refine hK.out _ _ ?_ (fun hHeld=> ?_)
 ·(try dsimp only);exact ⟨k0,k1,k2,k3⟩
 clear hK K
 try go_frame
 refine Za 7 (some 4) hHeld _ ?_;try go_frame
 refine Za 8 (some 5) hHeld _ ?_;try go_frame
 refine wpAnyH_done (by kernel_rfl) ?_ _
 obtain ⟨Wf,hWf,hR,hQ,hbel,hdd,hxx⟩:=HZ.out.fin
 rw [HE5.out.1,HE5.out.2] at hWf hQ
 have hYf:Y2=Wf:=by rw [HY2.out,HY1.out,hWf]
 rw [hYf]
 have t0:Wf.cell? ⟨w.heap.size,0,none⟩=some (.slice A L.length c):=hR.cell 0 rfl
 obtain ⟨⟨t1,t2,t3⟩, -⟩:=(show Zo Wf _ _ _ from hQ).c3
 clear k0 k1 k2 k3 r0 rf kd kv kq hYf hWf hHeld
 go_wp2
 exact bodyPost_ret (v:= .tuple #[.agg #[.slice A L.length c], .agg #[.int .i64 x.n, .slice A5 x.b.length c5, .slice A6 x.items.length c6], .string S, .bool t]) (by simp [results,results16,go_sem,t0,t1,t2,t3]) rfl
  ⟨A,c,L,x,S, .bool t,by unfold Qs;rw [HE5.out.1,HE5.out.2],⟨t,rfl⟩,HDR.out,hl1,hl9,hxs,hSs,hdd,hxx,hbel⟩
end Go.Proofs.YteldgdelmaeokaaGreatDoor
