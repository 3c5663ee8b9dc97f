/- Out of Dr22S, Dr22, Dr22R: the walks and plain laws that the claim needs. No condition but those that each theorem names. -/
import Derived.Test.YteldgdelmaeokaaDoorGdc
import Derived.Test.YteldgdelmaeokaaDoorGde
import Derived.Test.YteldgdelmaeokaaDoorGdf
import Derived.Test.YteldgdelmaeokaaDoorGda
import Derived.IntWalk
import Derived.WalkSpells
import Derived.WalkLawsBesides
import Derived.Deep.RegionHeld3
import Derived.Deep.DeepCutAuto
set_option linter.unusedSimpArgs false
set_option linter.unusedVariables false
namespace Go.Proofs.YteldgdelmaeokaaDoor
open Go.RowKit
def OneE (b:Nat) (v:Value) (l:List UInt8) (w:World) (e:Ending) (w':World):Prop:=
 ∃(A:Option Addr) (c:Nat) (L:List RM) (x:VM) (S:ByteArray) (r:Int),e= .returned (.tuple #[.agg #[.slice A L.length c],vmV x, .string S, .int .i64 r])∧DrD (L.map RM.d)∧1≤L.length∧L.length≤9∧x.d.size≤589825∧S.size≤4096∧(-1≤r∧r < L.length)∧
  Stays w.heap.size w'.heap.size (fun W=> SlD W w'.heap.size (.slice A L.length c) L∧x.rd W w'.heap.size) w'∧GoB b w w'∧CurW b v l w'
theorem findV_rule {D:List RuleD} {x:Val} {ok:Bool} {S:List ByteArray} (h0:0 < D.length): -1≤(findV D x ok S).2.1∧(findV D x ok S).2.1 < D.length:=by
 unfold findV
 split
 ·rename_i hc
  simp only [Bool.and_eq_true] at hc
  cases hw:walkV D (D.length - 1:Nat) x S with
  |none=> simp;omega
  |some q=>
   obtain ⟨k,y⟩:=q
   have h1:=hc.2.2
   rw [show ((D.length:Int) - 1)=((D.length - 1:Nat):Int) by omega] at h1
   obtain ⟨k',rfl,hk'⟩:=validV_rng (walkV_valid h1 hw)
   show -1≤(k':Int)∧(k':Int) < D.length
   omega
 ·simp
  omega
structure OnS (b:Nat) (v:Value) (l:List UInt8) (vD:Value) (L:List RM) (w:World) (gd gv:Nat) (x:VM) (W:World):Prop where
 cur:CurW b v l W
 go:GoB b w W
 res:Blk W w.heap.size 26 #[.slice none 0 0]
 req:Blk W (w.heap.size+1) 29 #[.int .i64 0, .slice none 0 0, .slice none 0 0]
 dbox:Blk W gd 26 #[vD]
 vbox:Blk W gv 29 #[.int .i64 x.n,x.vb,x.vi]
 st:Stays (w.heap.size+2) W.heap.size (fun W'=> SlD W' W.heap.size vD L∧x.rd W' W.heap.size) W
 size:x.d.size≤589825
 hb:b < w.heap.size
 hgd:w.heap.size+2≤gd
 hgv:w.heap.size+2≤gv
section
variable {b gd gv:Nat} {v vD:Value} {l:List UInt8} {L:List RM} {w W W' W2:World} {x:VM}
theorem Stays.push {lo:Nat} {vD:Value} {L:List RM} {x:VM} {W W':World} (h:Stays lo W.heap.size (fun W'=> SlD W' W.heap.size vD L∧x.rd W' W.heap.size) W) (hz:W.heap.size≤W'.heap.size) (hk:∀k,lo≤k→k < W.heap.size→W'.heap[k]?=W.heap[k]?):
  Stays lo W'.heap.size (fun W2=> SlD W2 W'.heap.size vD L∧x.rd W2 W'.heap.size) W':=by
 refine ⟨Nat.le_refl _,fun w2 h2 k2=> ?_⟩
 have:=h.2 w2 (by omega) fun k h1 h3=> (k2 k h1 (by omega)).trans (hk k h1 h3)
 exact ⟨this.1.more hz,this.2.more hz⟩
theorem OnS.step (h:OnS b v l vD L w gd gv x W) (hs:GoB b W W') (hc:CurW b v l W'):OnS b v l vD L w gd gv x W':=
 have h1:=h.hb
 have h2:=h.hgd
 have h3:=h.hgv
 ⟨hc,h.go.trans hs,h.res.go hs (by omega),h.req.go hs (by omega),h.dbox.go hs (by omega),h.vbox.go hs (by omega),h.st.push hs.size fun k h1 h2=> hs.block k h2 (fun e=> by have:k=b:=Option.some.inj e;omega),h.size,h.hb,h.hgd,h.hgv⟩
theorem OnS.below (h:OnS b v l vD L w gd gv x W) (hb:Below W.heap.size W W'):OnS b v l vD L w gd gv x W':=h.step (GoB.of_below hb) (h.cur.below hb)
theorem OnS.alloc (h:OnS b v l vD L w gd gv x W) (o:Obj):OnS b v l vD L w gd gv x (W.alloc o):=h.below ((Below.refl _ _).alloc (Nat.le_refl _) o)
theorem OnS.drew (h:OnS b v l vD L w gd gv x W):OnS b v l vD L w gd gv x W.drew:=h.step ⟨rfl,rfl,rfl,Nat.le_refl _,fun _ _ _=> rfl⟩ h.cur.drew
theorem OnS.bent {x':VM} {lo0 hi1 hi0:Nat} (h:OnS b v l vD L w gd gv x W) (hd:Stays lo0 hi1 (fun W'=> SlD W' hi1 vD L) W) (hlo0:w.heap.size+2≤lo0) (hi10:hi1≤hi0) (hi1v:hi1≤gv) (hdv:gd < gv) (hx:OwV1 x hi0 gv W) (hgd:gd < hi0) (hs:x'.d.size≤589825) (hr:RdIn (fun q=> q∈x.bks∨W.heap.size≤q) x' W2) (ho:OutB (b::x.bks) W W2) (hc:CurW b v l W2):
  Blk W2 gv 29 #[.int .i64 x.n,x.vb,x.vi]∧OnS b v l vD L w gd gv x' (((W2.setCell ⟨gv,0,none⟩ (.int .i64 x'.n)).setCell ⟨gv,1,none⟩ x'.vb).setCell ⟨gv,2,none⟩ x'.vi):=by
 have h1:=h.hb
 have h2:=h.hgd
 have h3:=h.hgv
 have hgw:=h.go.size
 have hgv2:=h.vbox.lt
 have hd0:=hd.1
 have hbk:∀q∈x.bks,hi0≤q∧q < gv:=fun q hq=> hx.rng q hq
 have hne:∀q,(q < hi0∨gv≤q)→q≠b→q ∉ b::x.bks:=fun q h1 h2 hm=> (List.mem_cons.1 hm).elim h2 fun h3=> by have:=hbk q h3;omega
 have hz2:=ho.size
 have hv2:Blk W2 gv 29 #[.int .i64 x.n,x.vb,x.vi]:=(ho.block _ hgv2 (hne _ (.inr (Nat.le_refl _)) (by omega))).trans h.vbox
 have hset:∀q,q≠gv→(((W2.setCell ⟨gv,0,none⟩ (.int .i64 x'.n)).setCell ⟨gv,1,none⟩ x'.vb).setCell ⟨gv,2,none⟩ x'.vi).heap[q]?=W2.heap[q]?:=fun q hq=> by
  rw [Below.heap_setCell _ _ _ q hq,Below.heap_setCell _ _ _ q hq,Below.heap_setCell _ _ _ q hq]
 have hsz:(((W2.setCell ⟨gv,0,none⟩ (.int .i64 x'.n)).setCell ⟨gv,1,none⟩ x'.vb).setCell ⟨gv,2,none⟩ x'.vi).heap.size=W2.heap.size:=by simp [World.setCell]
 have hkeep:∀{T:TypeId} {cs:Array Value} {q:Nat},Blk W q T cs→(q < hi0∨gv≤q)→q≠b→q≠gv→Blk (((W2.setCell ⟨gv,0,none⟩ (.int .i64 x'.n)).setCell ⟨gv,1,none⟩ x'.vb).setCell ⟨gv,2,none⟩ x'.vi) q T cs:=fun hb h1 h2 h3=> (hset _ h3).trans ((ho.block _ hb.lt (hne _ h1 h2)).trans hb)
 have hgo2:GoB b w W2:=⟨ho.os.trans h.go.os,ho.tape.trans h.go.tape,ho.output.trans h.go.output,Nat.le_trans hgw hz2,fun k hk hn=> (ho.block k (by omega) (hne k (.inl (by omega)) (fun e=> hn (by rw [e])))).trans (h.go.block k hk hn)⟩
 refine ⟨hv2,((hc.set (by omega) _).set (by omega) _).set (by omega) _,((hgo2.set (by omega) _).set (by omega) _).set (by omega) _,hkeep h.res (.inl (by omega)) (by omega) (by omega),hkeep h.req (.inl (by omega)) (by omega) (by omega),hkeep h.dbox (.inl hgd) (by omega) (by omega),?_,?_,hs,h1,h2,h3⟩
 ·have:=((hv2.set 0 (.int .i64 x'.n)).set 1 x'.vb).set 2 x'.vi
  simpa using this
 ·refine ⟨Nat.le_refl _,fun w5 h5 k5=> ⟨?_,?_⟩⟩
  ·refine (hd.2 w5 (by omega) fun k q1 q2=> ?_).more (by omega)
   rw [k5 k (by omega) (by omega),hset k (by omega),ho.block k (by omega) (hne k (.inl (by omega)) (by omega))]
  ·rw [hsz]
   have hb2:∀q,(q∈x.bks∨W.heap.size≤q)→w.heap.size+2≤q∧q≠gv:=fun q hq=> hq.elim (fun h=> by have:=hbk q h;omega) (fun h=> by omega)
   refine hr w5 (by omega) fun q q1 q2=> ?_
   rw [k5 q (hb2 q q2).1 (by omega),hset q (hb2 q q2).2]
theorem OnS.fin (h:OnS b v l vD L w gd gv x W):∃Wf,Wf=(((W.setCell ⟨w.heap.size,0,none⟩ vD).setCell ⟨w.heap.size+1,0,none⟩ (.int .i64 x.n)).setCell ⟨w.heap.size+1,1,none⟩ x.vb).setCell ⟨w.heap.size+1,2,none⟩ x.vi∧
  Blk Wf w.heap.size 26 #[vD]∧Blk Wf (w.heap.size+1) 29 #[.int .i64 x.n,x.vb,x.vi]∧GoB b w Wf∧CurW b v l Wf∧Stays w.heap.size Wf.heap.size (fun W=> SlD W Wf.heap.size vD L∧x.rd W Wf.heap.size) Wf:=by
 have h1:=h.hb
 refine ⟨_,rfl,?_,?_,?_,?_,?_⟩
 ·have:=(((h.res.set 0 vD).other (q:=w.heap.size+1) (j:=0) (by omega) (.int .i64 x.n)).other (q:=w.heap.size+1) (j:=1) (by omega) x.vb).other (q:=w.heap.size+1) (j:=2) (by omega) x.vi
  simpa using this
 ·have:=(((h.req.other (q:=w.heap.size) (j:=0) (by omega) vD).set 0 (.int .i64 x.n)).set 1 x.vb).set 2 x.vi
  simpa using this
 ·exact (((h.go.set (Nat.le_refl _) _).set (by omega) _).set (by omega) _).set (by omega) _
 ·exact (((h.cur.set (by omega) _).set (by omega) _).set (by omega) _).set (by omega) _
 ·refine (h.st.push (by simp [World.setCell]) fun k h1 h2=> ?_).wide (by omega) (Nat.le_refl _) (Nat.le_refl _)
  rw [Below.heap_setCell _ _ _ k (show k≠w.heap.size+1 by omega),Below.heap_setCell _ _ _ k (show k≠w.heap.size+1 by omega),Below.heap_setCell _ _ _ k (show k≠w.heap.size+1 by omega),Below.heap_setCell _ _ _ k (show k≠w.heap.size by omega)]
end
end Go.Proofs.YteldgdelmaeokaaDoor
namespace Go.Proofs.YteldgdelmaeokaaDoor
open Go.RowKit
set_option maxHeartbeats 4000000 in
set_option maxRecDepth 100000 in
theorem l22One_0 (b:Nat) (v:Value) (l:List UInt8) (w:World) (h:CurW b v l w):Calls Tryd.prog 25 #[.pointer (some ⟨b,0,none⟩), .int .i64 0] w (OneE b v l w):=by
 have hbw:=h.lt
 obtain ⟨W0,hW0⟩:∃W0,W0=(w.alloc (.cells #[.slice none 0 0] 26)).alloc (.cells #[.int .i64 0, .slice none 0 0, .slice none 0 0] 29):=⟨_,rfl⟩
 have hb0:Below w.heap.size w W0:=by rw [hW0];exact ((Below.refl w.heap.size w).alloc (Nat.le_refl _) _).alloc (by simp) _
 have hz0:w.heap.size+2≤W0.heap.size:=by rw [hW0];simp
 have R0:Blk W0 w.heap.size 26 #[.slice none 0 0]:=by rw [hW0];exact (Blk.new w _ _).alloc _
 have Q0:Blk W0 (w.heap.size+1) 29 #[.int .i64 0, .slice none 0 0, .slice none 0 0]:=by rw [hW0];have:=Blk.new (w.alloc (.cells #[.slice none 0 0] 26)) 29 #[.int .i64 0, .slice none 0 0, .slice none 0 0];simpa using this
 have H0:=Lib.hid (And.intro (h.below hb0) (And.intro (GoB.of_below (b:=b) hb0) (And.intro R0 Q0)))
 clear h hb0 R0 Q0
 go_enter Tryd.func25,Tryd.ntmps25
 go_upto_region 1 with fail
 rw [←hW0]
 clear hW0
 go_wp2_with fail
 refine (l4Description_any b v l W0 H0.out.1).mono ?_
 rintro e w1 ⟨A,c,L,rfl,hdr,hl1,hl6,hdg,hgo,hcu⟩
 have hz1:=hgo.size
 obtain ⟨W2,hW2⟩:∃W2,W2=w1.alloc (.cells #[.slice A L.length c] 26):=⟨_,rfl⟩
 have h12:Below w1.heap.size w1 W2:=by rw [hW2];exact (Below.refl _ _).alloc (Nat.le_refl _) _
 have D2:Blk W2 w1.heap.size 26 #[.slice A L.length c]:=by rw [hW2];exact Blk.new w1 _ _
 have hz2:w1.heap.size < W2.heap.size:=D2.lt
 have HS2:=Lib.hid (hdg.stays.below h12)
 have H2:=Lib.hid (And.intro (hcu.below h12) (And.intro (H0.out.2.1.trans (hgo.trans (GoB.of_below h12))) (And.intro ((H0.out.2.2.1.go hgo (by omega)).below h12) (And.intro ((H0.out.2.2.2.go hgo (by omega)).below h12) D2))))
 have hlm:(L.map RM.d).length=L.length:=List.length_map ..
 have HDR:=Lib.hid hdr
 have hMk:Calls Tryd.prog 28 #[.pointer (some ⟨b,0,none⟩), .agg #[.slice A L.length c], .int .i64 (L.length - 1:Nat), .int .i64 10] W2 (MadeV b v l L (L.length - 1) W2):=
  l9Make_any b (W0.heap.size+2) w1.heap.size v _ l L (L.length - 1) 10 W2 H2.out.1 HS2.out (by omega) (by omega) hdr (by omega) (by omega) (by omega)
 have HMK:=Lib.hid hMk
 have s0:W2.cell? ⟨w1.heap.size,0,none⟩=some (.slice A L.length c):=D2.cell 0 rfl
 have hl1w:IntKind.i64.wrap ((L.length:Int) - 1)=((L.length - 1:Nat):Int):=by rw [IntWalk.i64_in _ (by omega)];omega
 clear hdg hgo hcu h12 D2 hMk hdr H0
 go_upto_region 2 with fail
 rw [←hW2]
 clear hW2
 go_wp2_with fail
 refine HMK.out.mono ?_
 rintro e w3 ⟨x,rfl,hxv,hxs,hxo,hgo3,hcu3⟩
 obtain ⟨A5,c5,e5⟩:=own_slice hxo.own.bytes
 obtain ⟨A6,c6,e6⟩:=own_slice hxo.own.row
 unfold vmV
 rw [e5,e6]
 obtain ⟨W4,hW4⟩:∃W4,W4=w3.alloc (.cells #[.int .i64 x.n, .slice A5 x.b.length c5, .slice A6 x.items.length c6] 29):=⟨_,rfl⟩
 have h34:Below w3.heap.size w3 W4:=by rw [hW4];exact (Below.refl _ _).alloc (Nat.le_refl _) _
 have V4:Blk W4 w3.heap.size 29 #[.int .i64 x.n,x.vb,x.vi]:=by rw [hW4,e5,e6];exact Blk.new w3 _ _
 have hz3:=hgo3.size
 have hz4:w3.heap.size < W4.heap.size:=V4.lt
 have hgo24:GoB b W2 W4:=hgo3.trans (GoB.of_below h34)
 have hxo4:=hxo.keep (Out.of_below h34 0 0) (.inr (Nat.zero_le _))
 have hsb:=sB_bd (k:=L.length - 1) (by omega)
 have HS4:=Lib.hid (HS2.out.go hgo24 (by omega))
 have H4:=Lib.hid (show OnS b v l (.slice A L.length c) L w w1.heap.size w3.heap.size x W4 from
  ⟨hcu3.below h34,H2.out.2.1.trans hgo24,H2.out.2.2.1.go hgo24 (by omega),H2.out.2.2.2.1.go hgo24 (by omega),H2.out.2.2.2.2.go hgo24 (by omega),V4,
    ⟨Nat.le_refl _,fun W' h1 k1=> ⟨((HS4.out.2 W' h1 fun k q1 q2=> k1 k (by omega) (by omega)).more (by omega)),(hxo4.own.stays (lo:=w.heap.size+2) (by omega)).2 W' h1 k1⟩⟩,by omega,hbw,by omega,by omega⟩)
 have HXO:=Lib.hid (And.intro hxo4 hxv)
 have HE5:=Lib.hid (And.intro e5 e6)
 have hPT:∀W,Below W4.heap.size W4 W→Calls Tryd.prog 65 #[.pointer (some ⟨b,0,none⟩), .agg #[.slice A L.length c], .agg #[.int .i64 x.n, .slice A5 x.b.length c5, .slice A6 x.items.length c6]] W (PathE b v l W):=fun W hb=> by
  have:=l18Path_any b _ _ v (.slice A L.length c) l L x W (H4.out.cur.below hb) (HS4.out.below hb) (by have:=HS4.out.1;have:=hb.size;omega) HDR.out hl1 (by omega) ((hxo4.own.rd.bel hb).more hb.size) hxv (by omega)
  unfold vmV at this
  rw [e5,e6] at this
  exact this
 have HPT:=Lib.hid (hPT W4 (Below.refl _ _))
 have k0:W4.cell? ⟨w1.heap.size,0,none⟩=some (.slice A L.length c):=H4.out.dbox.cell 0 rfl
 have k1:W4.cell? ⟨w3.heap.size,0,none⟩=some (.int .i64 x.n):=H4.out.vbox.cell 0 rfl
 have k2:W4.cell? ⟨w3.heap.size,1,none⟩=some (.slice A5 x.b.length c5):=by rw [←e5];exact H4.out.vbox.cell 1 rfl
 have k3:W4.cell? ⟨w3.heap.size,2,none⟩=some (.slice A6 x.items.length c6):=by rw [←e6];exact H4.out.vbox.cell 2 rfl
 clear hPT hxo hxo4 hxv hgo3 hcu3 h34 V4 hgo24 H2 HMK HS2 e5 e6 s0
 go_upto_region 8 with fail
 rw [←hW4]
 clear hW4
 go_wp2_with fail
 refine HPT.out.mono ?_
 rintro e w5 ⟨⟨S,rfl,hS⟩,hg5,hc5⟩
 have H5:=Lib.hid (H4.out.step hg5 hc5)
 have HS5:=Lib.hid (HS4.out.go hg5 (by omega))
 have HX5:=Lib.hid (show OwV1 x W2.heap.size w3.heap.size w5 from ⟨HXO.out.1.own.keep fun g hg=> hg5.block g (HXO.out.1.own.lt g hg).2 (fun e=> by have e2:g=b:=Option.some.inj e;have:=(HXO.out.1.own.lt g hg).1;omega),HXO.out.1.nd,HXO.out.1.rng⟩)
 clear hg5 hc5 HPT H4 HS4 k0 k1 k2 k3
 go_wp2_with fail
 refine (l1Once_any b b v l 12 w5 H5.out.cur (by omega) (by omega)).mono ?_
 rintro e w6 ⟨⟨t,rfl⟩,hg6,hzq,hc6⟩
 have H6:=Lib.hid (H5.out.step hg6 hc6)
 have HS6:=Lib.hid (HS5.out.go hg6 (by omega))
 have HX6:=Lib.hid (show OwV1 x W2.heap.size w3.heap.size w6 from ⟨HX5.out.own.keep fun g hg=> hg6.block g (HX5.out.own.lt g hg).2 (fun e=> by have e2:g=b:=Option.some.inj e;have:=(HX5.out.own.lt g hg).1;omega),HX5.out.nd,HX5.out.rng⟩)
 clear hzq hg6 hc6 H5 HS5 HX5
 cases t with
 |false=>
  obtain ⟨z,hzx⟩:∃z,z=x:=⟨_,rfl⟩
  obtain ⟨W9,hW9⟩:∃W9,W9=w6:=⟨_,rfl⟩
  have HZ:=Lib.hid (by rw [hW9,hzx];exact H6.out:OnS b v l (.slice A L.length c) L w w1.heap.size w3.heap.size z W9)
  rw [←hW9]
  clear hzx hW9
  have hok:=HDR.out.ok (by rw [hlm];omega)
  have hsm:=HDR.out.small
  have hF:=specFind_any (.slice A L.length c) L z S W9.heap.size W9 HZ.out.st.now.1 (Nat.le_refl _) (fun r hr=> hok _ (List.mem_map_of_mem hr)) (fun r hr=> hsm _ (List.mem_map_of_mem hr)) HZ.out.st.now.2 (by have:=HZ.out.size;omega) (by omega)
  obtain ⟨A7,c7,e7, -⟩:=HZ.out.st.now.2.bytes.open_
  obtain ⟨A8,c8,e8, -⟩:=HZ.out.st.now.2.its.open_
  unfold vmV at hF
  rw [e7,e8] at hF
  have hFR:=findV_rule (D:=L.map RM.d) (x:=z.d) (ok:=spOk isStep S) (S:=spL isStep S) (by rw [hlm];omega)
  rw [hlm] at hFR
  generalize findV (L.map RM.d) z.d (spOk isStep S) (spL isStep S)=ff at*
  have HF:=Lib.hid hF
  have HFR:=Lib.hid hFR
  have HE9:=Lib.hid (And.intro e7 e8)
  have k0:W9.cell? ⟨w1.heap.size,0,none⟩=some (.slice A L.length c):=HZ.out.dbox.cell 0 rfl
  have k1:W9.cell? ⟨w3.heap.size,0,none⟩=some (.int .i64 z.n):=HZ.out.vbox.cell 0 rfl
  have k2:W9.cell? ⟨w3.heap.size,1,none⟩=some (.slice A7 z.b.length c7):=by rw [←e7];exact HZ.out.vbox.cell 1 rfl
  have k3:W9.cell? ⟨w3.heap.size,2,none⟩=some (.slice A8 z.items.length c8):=by rw [←e8];exact HZ.out.vbox.cell 2 rfl
  clear hF hFR hok hsm e7 e8
  go_wp2_with fail
  refine HF.out.mono ?_
  rintro e w8 ⟨vv,rfl,hov,bel⟩
  obtain ⟨A1,c1,A2,c2,rfl⟩:=hov.agg
  obtain ⟨yn,hyn⟩:∃yn:Int,yn=ff.1.n:=⟨_,rfl⟩
  obtain ⟨W8,hW8⟩:∃W8,W8=w8.alloc (.cells #[.int .i64 ff.1.n, .slice A1 ff.1.b.length c1, .slice A2 ff.1.items.length c2] 29):=⟨_,rfl⟩
  have HY:=Lib.hid (by rw [hW8];exact ((HZ.out.below bel).alloc _).drew:OnS b v l (.slice A L.length c) L w w1.heap.size w3.heap.size z W8.drew)
  have k0:W8.cell? ⟨w1.heap.size,0,none⟩=some (.slice A L.length c):=HY.out.dbox.cell 0 rfl
  have k1:W8.cell? ⟨w3.heap.size,0,none⟩=some (.int .i64 z.n):=HY.out.vbox.cell 0 rfl
  have k2:W8.cell? ⟨w3.heap.size,1,none⟩=some (.slice A7 z.b.length c7):=by rw [←HE9.out.1];exact HY.out.vbox.cell 1 rfl
  have k3:W8.cell? ⟨w3.heap.size,2,none⟩=some (.slice A8 z.items.length c8):=by rw [←HE9.out.2];exact HY.out.vbox.cell 2 rfl
  have r0:W8.cell? ⟨w.heap.size,0,none⟩=some (.slice none 0 0):=HY.out.res.cell 0 rfl
  have rf:W8.frozen? ⟨w.heap.size,0,none⟩=false:=HY.out.res.frozen 0
  obtain ⟨⟨p0,p1,p2⟩,g0,g1,g2⟩:=HY.out.req.c3
  clear hov bel HZ HF
  go_wp2_with fail
  rw [←hW8]
  clear hW8 hyn
  refine wp_region_held_drew (S:=(fun w9=> w9.cell? ⟨w1.heap.size,0,none⟩=some (.slice A L.length c)∧w9.cell? ⟨w3.heap.size,0,none⟩=some (.int .i64 z.n)∧w9.cell? ⟨w3.heap.size,1,none⟩=some (.slice A7 z.b.length c7)∧w9.cell? ⟨w3.heap.size,2,none⟩=some (.slice A8 z.items.length c8))) (by kernel_rfl) ?_ (fun hHeld=> ?_)
  ·(try dsimp only);exact ⟨k0,k1,k2,k3⟩
  refine rgTake 0 (some 111) hHeld _ ?_;try go_frame
  refine rgTake 1 (some 112) hHeld _ ?_;try go_frame
  refine rgTake 2 (some 113) hHeld _ ?_;try go_frame
  refine rgTake 3 (some 114) hHeld _ ?_;try go_frame
  refine rgStep 4 (fun K hK=> ?_)
  (try go_simp)
  obtain ⟨Y1,hY1⟩:∃V,V=(W8.setCell ⟨w.heap.size,0,none⟩ (.slice A L.length c)).drew:=⟨_,rfl⟩;rw [←hY1];have kd:Blk Y1 w1.heap.size 26 #[.slice A L.length c]:=(by rw [hY1];exact HY.out.dbox.other (by omega) _);have kv:Blk Y1 w3.heap.size 29 #[.int .i64 z.n,z.vb,z.vi]:=(by rw [hY1];exact HY.out.vbox.other (by omega) _);have kq:Blk Y1 (w.heap.size+1) 29 #[.int .i64 0, .slice none 0 0, .slice none 0 0]:=(by rw [hY1];exact HY.out.req.other (by omega) _);have HY1:=Lib.hid hY1;clear hY1 k0 k1 k2 k3 p0 p1 p2 g0 g1 g2;have k0:Y1.cell? ⟨w1.heap.size,0,none⟩=some (.slice A L.length c):=kd.cell 0 rfl;have k1:Y1.cell? ⟨w3.heap.size,0,none⟩=some (.int .i64 z.n):=kv.cell 0 rfl;have k2:Y1.cell? ⟨w3.heap.size,1,none⟩=some (.slice A7 z.b.length c7):=(by rw [←HE9.out.1];exact kv.cell 1 rfl);have k3:Y1.cell? ⟨w3.heap.size,2,none⟩=some (.slice A8 z.items.length c8):=(by rw [←HE9.out.2];exact kv.cell 2 rfl);obtain ⟨⟨p0,p1,p2⟩,g0,g1,g2⟩:=kq.c3
  refine hK.out _ _ ?_ (fun hHeld=> ?_)
  ·(try dsimp only);exact ⟨k0,k1,k2,k3⟩
  clear hK K
  try go_frame
  refine rgStep 5 (fun K hK=> ?_)
  (try go_simp)
  obtain ⟨Y2,hY2⟩:∃V,V=((Y1.setCell ⟨w.heap.size+1,0,none⟩ (.int .i64 z.n)).setCell ⟨w.heap.size+1,1,none⟩ (.slice A7 z.b.length c7)).setCell ⟨w.heap.size+1,2,none⟩ (.slice A8 z.items.length c8):=⟨_,rfl⟩;rw [←hY2];have kd2:Blk Y2 w1.heap.size 26 #[.slice A L.length c]:=(by rw [hY2];exact ((kd.other (by omega) _).other (by omega) _).other (by omega) _);have kv2:Blk Y2 w3.heap.size 29 #[.int .i64 z.n,z.vb,z.vi]:=(by rw [hY2];exact ((kv.other (by omega) _).other (by omega) _).other (by omega) _);have HY2:=Lib.hid hY2;clear hY2 k0 k1 k2 k3 p0 p1 p2 g0 g1 g2;have k0:Y2.cell? ⟨w1.heap.size,0,none⟩=some (.slice A L.length c):=kd2.cell 0 rfl;have k1:Y2.cell? ⟨w3.heap.size,0,none⟩=some (.int .i64 z.n):=kv2.cell 0 rfl;have k2:Y2.cell? ⟨w3.heap.size,1,none⟩=some (.slice A7 z.b.length c7):=(by rw [←HE9.out.1];exact kv2.cell 1 rfl);have k3:Y2.cell? ⟨w3.heap.size,2,none⟩=some (.slice A8 z.items.length c8):=(by rw [←HE9.out.2];exact kv2.cell 2 rfl)
  refine hK.out _ _ ?_ (fun hHeld=> ?_)
  ·(try dsimp only);exact ⟨k0,k1,k2,k3⟩
  clear hK K
  try go_frame
  refine rgTake 6 (some 6) hHeld _ ?_;try go_frame
  refine rgTake 7 (some 7) hHeld _ ?_;try go_frame
  refine wpAnyH_done (by kernel_rfl) ?_ _
  obtain ⟨Wf,hWf,hR,hQ,hgo,hcu,hst⟩:=HY.out.fin
  rw [HE9.out.1,HE9.out.2] at hWf hQ
  have hYf:Y2=Wf:=by rw [HY2.out,HY1.out,hWf];rfl
  rw [hYf]
  have t0:Wf.cell? ⟨w.heap.size,0,none⟩=some (.slice A L.length c):=hR.cell 0 rfl
  obtain ⟨⟨t1,t2,t3⟩, -⟩:=hQ.c3
  clear k0 k1 k2 k3 r0 rf kd kv kq kd2 kv2 hYf hWf hHeld
  go_wp2
  exact bodyPost_ret (v:= .tuple #[.agg #[.slice A L.length c], .agg #[.int .i64 z.n, .slice A7 z.b.length c7, .slice A8 z.items.length c8], .string S, .int .i64 ff.2.1]) (by simp [results,Tryd.results25,go_sem,t0,t1,t2,t3]) rfl
   ⟨A,c,L,z,S,ff.2.1,by unfold vmV;rw [HE9.out.1,HE9.out.2],HDR.out,hl1,by omega,HY.out.size,hS,HFR.out,hst,hgo,hcu⟩
 |true=>
  have hBN:=l9Bent_any b v l x W2.heap.size w6 H6.out.cur HX6.out.own HX6.out.nd (by omega) (by have:=H6.out.vbox.lt;omega) (by have:=H6.out.size;omega)
  unfold vmV at hBN
  rw [HE5.out.1,HE5.out.2] at hBN
  have HBN:=Lib.hid hBN
  have k1:w6.cell? ⟨w3.heap.size,0,none⟩=some (.int .i64 x.n):=H6.out.vbox.cell 0 rfl
  have k2:w6.cell? ⟨w3.heap.size,1,none⟩=some (.slice A5 x.b.length c5):=by rw [←HE5.out.1];exact H6.out.vbox.cell 1 rfl
  have k3:w6.cell? ⟨w3.heap.size,2,none⟩=some (.slice A6 x.items.length c6):=by rw [←HE5.out.2];exact H6.out.vbox.cell 2 rfl
  clear hBN
  go_upto_region 19 with (go_at_call 67;refine HBN.out.mono ?_;rintro e w7 ⟨z,rfl,hzs,hzr,hzo,hzc⟩;obtain ⟨A9,c9,e9, -⟩:=hzr.now.bytes.open_;obtain ⟨A0,c0,e0, -⟩:=hzr.now.its.open_;have HB7:=Lib.hid (H6.out.bent (x':=z) HS6.out (by omega) (by omega) (by omega) (by omega) HX6.out (by omega) (by omega) hzr hzo hzc);unfold vmV;rw [e9,e0];have HE0:=Lib.hid (And.intro e9 e0);clear k1 k2 k3 hzs hzr hzo hzc e9 e0;obtain ⟨⟨k1,k2,k3⟩,kf1,kf2,kf3⟩:=Blk.c3 HB7.out.1)
  obtain ⟨W9,hW9⟩:∃W9,W9=((w7.setCell ⟨w3.heap.size,0,none⟩ (.int .i64 z.n)).setCell ⟨w3.heap.size,1,none⟩ (.slice A9 z.b.length c9)).setCell ⟨w3.heap.size,2,none⟩ (.slice A0 z.items.length c0):=⟨_,rfl⟩
  have HZ:=Lib.hid (by rw [hW9,←HE0.out.1,←HE0.out.2];exact HB7.out.2:OnS b v l (.slice A L.length c) L w w1.heap.size w3.heap.size z W9)
  rw [←hW9]
  clear hW9 HB7 k1 k2 k3 kf1 kf2 kf3 HBN HE0
  have hok:=HDR.out.ok (by rw [hlm];omega)
  have hsm:=HDR.out.small
  have hF:=specFind_any (.slice A L.length c) L z S W9.heap.size W9 HZ.out.st.now.1 (Nat.le_refl _) (fun r hr=> hok _ (List.mem_map_of_mem hr)) (fun r hr=> hsm _ (List.mem_map_of_mem hr)) HZ.out.st.now.2 (by have:=HZ.out.size;omega) (by omega)
  obtain ⟨A7,c7,e7, -⟩:=HZ.out.st.now.2.bytes.open_
  obtain ⟨A8,c8,e8, -⟩:=HZ.out.st.now.2.its.open_
  unfold vmV at hF
  rw [e7,e8] at hF
  have hFR:=findV_rule (D:=L.map RM.d) (x:=z.d) (ok:=spOk isStep S) (S:=spL isStep S) (by rw [hlm];omega)
  rw [hlm] at hFR
  generalize findV (L.map RM.d) z.d (spOk isStep S) (spL isStep S)=ff at*
  have HF:=Lib.hid hF
  have HFR:=Lib.hid hFR
  have HE9:=Lib.hid (And.intro e7 e8)
  have k0:W9.cell? ⟨w1.heap.size,0,none⟩=some (.slice A L.length c):=HZ.out.dbox.cell 0 rfl
  have k1:W9.cell? ⟨w3.heap.size,0,none⟩=some (.int .i64 z.n):=HZ.out.vbox.cell 0 rfl
  have k2:W9.cell? ⟨w3.heap.size,1,none⟩=some (.slice A7 z.b.length c7):=by rw [←e7];exact HZ.out.vbox.cell 1 rfl
  have k3:W9.cell? ⟨w3.heap.size,2,none⟩=some (.slice A8 z.items.length c8):=by rw [←e8];exact HZ.out.vbox.cell 2 rfl
  clear hF hFR hok hsm e7 e8
  go_wp2_with fail
  refine HF.out.mono ?_
  rintro e w8 ⟨vv,rfl,hov,bel⟩
  obtain ⟨A1,c1,A2,c2,rfl⟩:=hov.agg
  obtain ⟨yn,hyn⟩:∃yn:Int,yn=ff.1.n:=⟨_,rfl⟩
  obtain ⟨W8,hW8⟩:∃W8,W8=w8.alloc (.cells #[.int .i64 ff.1.n, .slice A1 ff.1.b.length c1, .slice A2 ff.1.items.length c2] 29):=⟨_,rfl⟩
  have HY:=Lib.hid (by rw [hW8];exact ((HZ.out.below bel).alloc _).drew:OnS b v l (.slice A L.length c) L w w1.heap.size w3.heap.size z W8.drew)
  have k0:W8.cell? ⟨w1.heap.size,0,none⟩=some (.slice A L.length c):=HY.out.dbox.cell 0 rfl
  have k1:W8.cell? ⟨w3.heap.size,0,none⟩=some (.int .i64 z.n):=HY.out.vbox.cell 0 rfl
  have k2:W8.cell? ⟨w3.heap.size,1,none⟩=some (.slice A7 z.b.length c7):=by rw [←HE9.out.1];exact HY.out.vbox.cell 1 rfl
  have k3:W8.cell? ⟨w3.heap.size,2,none⟩=some (.slice A8 z.items.length c8):=by rw [←HE9.out.2];exact HY.out.vbox.cell 2 rfl
  have r0:W8.cell? ⟨w.heap.size,0,none⟩=some (.slice none 0 0):=HY.out.res.cell 0 rfl
  have rf:W8.frozen? ⟨w.heap.size,0,none⟩=false:=HY.out.res.frozen 0
  obtain ⟨⟨p0,p1,p2⟩,g0,g1,g2⟩:=HY.out.req.c3
  clear hov bel HZ HF
  go_wp2_with fail
  rw [←hW8]
  clear hW8 hyn
  refine wp_region_held_drew (S:=(fun w9=> w9.cell? ⟨w1.heap.size,0,none⟩=some (.slice A L.length c)∧w9.cell? ⟨w3.heap.size,0,none⟩=some (.int .i64 z.n)∧w9.cell? ⟨w3.heap.size,1,none⟩=some (.slice A7 z.b.length c7)∧w9.cell? ⟨w3.heap.size,2,none⟩=some (.slice A8 z.items.length c8))) (by kernel_rfl) ?_ (fun hHeld=> ?_)
  ·(try dsimp only);exact ⟨k0,k1,k2,k3⟩
  refine rgTake 0 (some 111) hHeld _ ?_;try go_frame
  refine rgTake 1 (some 112) hHeld _ ?_;try go_frame
  refine rgTake 2 (some 113) hHeld _ ?_;try go_frame
  refine rgTake 3 (some 114) hHeld _ ?_;try go_frame
  refine rgStep 4 (fun K hK=> ?_)
  (try go_simp)
  obtain ⟨Y1,hY1⟩:∃V,V=(W8.setCell ⟨w.heap.size,0,none⟩ (.slice A L.length c)).drew:=⟨_,rfl⟩;rw [←hY1];have kd:Blk Y1 w1.heap.size 26 #[.slice A L.length c]:=(by rw [hY1];exact HY.out.dbox.other (by omega) _);have kv:Blk Y1 w3.heap.size 29 #[.int .i64 z.n,z.vb,z.vi]:=(by rw [hY1];exact HY.out.vbox.other (by omega) _);have kq:Blk Y1 (w.heap.size+1) 29 #[.int .i64 0, .slice none 0 0, .slice none 0 0]:=(by rw [hY1];exact HY.out.req.other (by omega) _);have HY1:=Lib.hid hY1;clear hY1 k0 k1 k2 k3 p0 p1 p2 g0 g1 g2;have k0:Y1.cell? ⟨w1.heap.size,0,none⟩=some (.slice A L.length c):=kd.cell 0 rfl;have k1:Y1.cell? ⟨w3.heap.size,0,none⟩=some (.int .i64 z.n):=kv.cell 0 rfl;have k2:Y1.cell? ⟨w3.heap.size,1,none⟩=some (.slice A7 z.b.length c7):=(by rw [←HE9.out.1];exact kv.cell 1 rfl);have k3:Y1.cell? ⟨w3.heap.size,2,none⟩=some (.slice A8 z.items.length c8):=(by rw [←HE9.out.2];exact kv.cell 2 rfl);obtain ⟨⟨p0,p1,p2⟩,g0,g1,g2⟩:=kq.c3
  refine hK.out _ _ ?_ (fun hHeld=> ?_)
  ·(try dsimp only);exact ⟨k0,k1,k2,k3⟩
  clear hK K
  try go_frame
  refine rgStep 5 (fun K hK=> ?_)
  (try go_simp)
  obtain ⟨Y2,hY2⟩:∃V,V=((Y1.setCell ⟨w.heap.size+1,0,none⟩ (.int .i64 z.n)).setCell ⟨w.heap.size+1,1,none⟩ (.slice A7 z.b.length c7)).setCell ⟨w.heap.size+1,2,none⟩ (.slice A8 z.items.length c8):=⟨_,rfl⟩;rw [←hY2];have kd2:Blk Y2 w1.heap.size 26 #[.slice A L.length c]:=(by rw [hY2];exact ((kd.other (by omega) _).other (by omega) _).other (by omega) _);have kv2:Blk Y2 w3.heap.size 29 #[.int .i64 z.n,z.vb,z.vi]:=(by rw [hY2];exact ((kv.other (by omega) _).other (by omega) _).other (by omega) _);have HY2:=Lib.hid hY2;clear hY2 k0 k1 k2 k3 p0 p1 p2 g0 g1 g2;have k0:Y2.cell? ⟨w1.heap.size,0,none⟩=some (.slice A L.length c):=kd2.cell 0 rfl;have k1:Y2.cell? ⟨w3.heap.size,0,none⟩=some (.int .i64 z.n):=kv2.cell 0 rfl;have k2:Y2.cell? ⟨w3.heap.size,1,none⟩=some (.slice A7 z.b.length c7):=(by rw [←HE9.out.1];exact kv2.cell 1 rfl);have k3:Y2.cell? ⟨w3.heap.size,2,none⟩=some (.slice A8 z.items.length c8):=(by rw [←HE9.out.2];exact kv2.cell 2 rfl)
  refine hK.out _ _ ?_ (fun hHeld=> ?_)
  ·(try dsimp only);exact ⟨k0,k1,k2,k3⟩
  clear hK K
  try go_frame
  refine rgTake 6 (some 6) hHeld _ ?_;try go_frame
  refine rgTake 7 (some 7) hHeld _ ?_;try go_frame
  refine wpAnyH_done (by kernel_rfl) ?_ _
  obtain ⟨Wf,hWf,hR,hQ,hgo,hcu,hst⟩:=HY.out.fin
  rw [HE9.out.1,HE9.out.2] at hWf hQ
  have hYf:Y2=Wf:=by rw [HY2.out,HY1.out,hWf];rfl
  rw [hYf]
  have t0:Wf.cell? ⟨w.heap.size,0,none⟩=some (.slice A L.length c):=hR.cell 0 rfl
  obtain ⟨⟨t1,t2,t3⟩, -⟩:=hQ.c3
  clear k0 k1 k2 k3 r0 rf kd kv kq kd2 kv2 hYf hWf hHeld
  go_wp2
  exact bodyPost_ret (v:= .tuple #[.agg #[.slice A L.length c], .agg #[.int .i64 z.n, .slice A7 z.b.length c7, .slice A8 z.items.length c8], .string S, .int .i64 ff.2.1]) (by simp [results,Tryd.results25,go_sem,t0,t1,t2,t3]) rfl
   ⟨A,c,L,z,S,ff.2.1,by unfold vmV;rw [HE9.out.1,HE9.out.2],HDR.out,hl1,by omega,HY.out.size,hS,HFR.out,hst,hgo,hcu⟩
end Go.Proofs.YteldgdelmaeokaaDoor
namespace Go.Proofs.YteldgdelmaeokaaDoor
open Go.RowKit
structure DrS (vD:Value) (L:List RM) (w:World) (gd gv gy:Nat) (x y:VM) (W:World):Prop where
 bel:Below w.heap.size w W
 res:Blk W w.heap.size 26 #[.slice none 0 0]
 req:Blk W (w.heap.size+1) 29 #[.int .i64 0, .slice none 0 0, .slice none 0 0]
 rey:Blk W (w.heap.size+2) 29 #[.int .i64 0, .slice none 0 0, .slice none 0 0]
 dbox:Blk W gd 26 #[vD]
 vbox:Blk W gv 29 #[.int .i64 x.n,x.vb,x.vi]
 ybox:Blk W gy 29 #[.int .i64 y.n,y.vb,y.vi]
 st:Stays (w.heap.size+3) W.heap.size (fun W'=> SlD W' W.heap.size vD L∧x.rd W' W.heap.size∧y.rd W' W.heap.size) W
 hd:w.heap.size+3≤gd
 hv:w.heap.size+3≤gv
 hy:w.heap.size+3≤gy
theorem drew_set (W:World) (p:Addr) (u:Value):W.drew.setCell p u=(W.setCell p u).drew:=rfl
theorem below_setQ {B:Nat} {w W:World} (h:Below B w W) {q j:Nat} (hq:B≤q) (u:Value):Below B w (W.setCell ⟨q,j,none⟩ u):=h.setCell (p:=⟨q,j,none⟩) hq u
set_option maxHeartbeats 1000000 in
theorem DrS.fin {vD:Value} {L:List RM} {w W:World} {gd gv gy:Nat} {x y:VM} (h:DrS vD L w gd gv gy x y W):
  ∃Wf,Wf=((((((W.setCell ⟨w.heap.size,0,none⟩ vD).setCell ⟨w.heap.size+1,0,none⟩ (.int .i64 x.n)).setCell ⟨w.heap.size+1,1,none⟩ x.vb).setCell ⟨w.heap.size+1,2,none⟩ x.vi).setCell ⟨w.heap.size+2,0,none⟩ (.int .i64 y.n)).setCell ⟨w.heap.size+2,1,none⟩ y.vb).setCell ⟨w.heap.size+2,2,none⟩ y.vi∧
   Blk Wf w.heap.size 26 #[vD]∧Blk Wf (w.heap.size+1) 29 #[.int .i64 x.n,x.vb,x.vi]∧Blk Wf (w.heap.size+2) 29 #[.int .i64 y.n,y.vb,y.vi]∧Below w.heap.size w Wf∧SlD Wf Wf.heap.size vD L∧x.rd Wf Wf.heap.size∧y.rd Wf Wf.heap.size:=by
 refine ⟨_,rfl,?_,?_,?_,?_,?_⟩
 ·have:=((((((h.res.set 0 vD).other (q:=w.heap.size+1) (j:=0) (by omega) (.int .i64 x.n)).other (q:=w.heap.size+1) (j:=1) (by omega) x.vb).other (q:=w.heap.size+1) (j:=2) (by omega) x.vi).other (q:=w.heap.size+2) (j:=0) (by omega) (.int .i64 y.n)).other (q:=w.heap.size+2) (j:=1) (by omega) y.vb).other (q:=w.heap.size+2) (j:=2) (by omega) y.vi
  simpa using this
 ·have:=((((((h.req.other (q:=w.heap.size) (j:=0) (by omega) vD).set 0 (.int .i64 x.n)).set 1 x.vb).set 2 x.vi).other (q:=w.heap.size+2) (j:=0) (by omega) (.int .i64 y.n)).other (q:=w.heap.size+2) (j:=1) (by omega) y.vb).other (q:=w.heap.size+2) (j:=2) (by omega) y.vi
  simpa using this
 ·have:=((((((h.rey.other (q:=w.heap.size) (j:=0) (by omega) vD).other (q:=w.heap.size+1) (j:=0) (by omega) (.int .i64 x.n)).other (q:=w.heap.size+1) (j:=1) (by omega) x.vb).other (q:=w.heap.size+1) (j:=2) (by omega) x.vi).set 0 (.int .i64 y.n)).set 1 y.vb).set 2 y.vi
  simpa using this
 ·exact below_setQ (below_setQ (below_setQ (below_setQ (below_setQ (below_setQ (below_setQ h.bel (Nat.le_refl _) _) (by omega) _) (by omega) _) (by omega) _) (by omega) _) (by omega) _) (by omega) _
 ·have:=h.st.2 (((((((W.setCell ⟨w.heap.size,0,none⟩ vD).setCell ⟨w.heap.size+1,0,none⟩ (.int .i64 x.n)).setCell ⟨w.heap.size+1,1,none⟩ x.vb).setCell ⟨w.heap.size+1,2,none⟩ x.vi).setCell ⟨w.heap.size+2,0,none⟩ (.int .i64 y.n)).setCell ⟨w.heap.size+2,1,none⟩ y.vb).setCell ⟨w.heap.size+2,2,none⟩ y.vi) (by simp [World.setCell]) fun k h1 h2=> by
   rw [Below.heap_setCell _ _ _ k (show k≠w.heap.size+2 by omega),Below.heap_setCell _ _ _ k (show k≠w.heap.size+2 by omega),Below.heap_setCell _ _ _ k (show k≠w.heap.size+2 by omega),Below.heap_setCell _ _ _ k (show k≠w.heap.size+1 by omega),Below.heap_setCell _ _ _ k (show k≠w.heap.size+1 by omega),Below.heap_setCell _ _ _ k (show k≠w.heap.size+1 by omega),Below.heap_setCell _ _ _ k (show k≠w.heap.size by omega)]
  have hsz:(((((((W.setCell ⟨w.heap.size,0,none⟩ vD).setCell ⟨w.heap.size+1,0,none⟩ (.int .i64 x.n)).setCell ⟨w.heap.size+1,1,none⟩ x.vb).setCell ⟨w.heap.size+1,2,none⟩ x.vi).setCell ⟨w.heap.size+2,0,none⟩ (.int .i64 y.n)).setCell ⟨w.heap.size+2,1,none⟩ y.vb).setCell ⟨w.heap.size+2,2,none⟩ y.vi).heap.size=W.heap.size:=by simp [World.setCell]
  rw [hsz]
  exact this
def DrawRE (w:World) (e:Ending) (w':World):Prop:=
 ∃(A:Option Addr) (c:Nat) (L:List RM) (x y:VM) (S:ByteArray),e= .returned (.tuple #[.agg #[.slice A L.length c],vmV x, .string S,vmV y])∧DrD (L.map RM.d)∧1≤L.length∧L.length≤9∧x.d.size≤589825∧y.d.size≤589824∧S.size≤4096∧
  SlD w' w'.heap.size (.slice A L.length c) L∧x.rd w' w'.heap.size∧y.rd w' w'.heap.size∧Below w.heap.size w w'
set_option maxHeartbeats 4000000 in
set_option maxRecDepth 100000 in
theorem drawReplace_any (v:Value) (l:List UInt8) (w:World) (h:SlB w w.heap.size v l) (hl:l.length≤1048576):Calls Tryd.prog 7 #[v] w (DrawRE w):=by
 obtain ⟨W0,hW0⟩:∃W0,W0=((w.alloc (.cells #[.slice none 0 0] 26)).alloc (.cells #[.int .i64 0, .slice none 0 0, .slice none 0 0] 29)).alloc (.cells #[.int .i64 0, .slice none 0 0, .slice none 0 0] 29):=⟨_,rfl⟩
 have hb0:Below w.heap.size w W0:=by rw [hW0];exact (((Below.refl w.heap.size w).alloc (Nat.le_refl _) _).alloc (by simp) _).alloc (by simp;omega) _
 have hz0:w.heap.size+3≤W0.heap.size:=by rw [hW0];simp
 have R0:Blk W0 w.heap.size 26 #[.slice none 0 0]:=by rw [hW0];exact ((Blk.new w _ _).alloc _).alloc _
 have Q0:Blk W0 (w.heap.size+1) 29 #[.int .i64 0, .slice none 0 0, .slice none 0 0]:=by rw [hW0];have:=(Blk.new (w.alloc (.cells #[.slice none 0 0] 26)) 29 #[.int .i64 0, .slice none 0 0, .slice none 0 0]).alloc (.cells #[.int .i64 0, .slice none 0 0, .slice none 0 0] 29);simpa using this
 have Y0:Blk W0 (w.heap.size+2) 29 #[.int .i64 0, .slice none 0 0, .slice none 0 0]:=by rw [hW0];have:=Blk.new ((w.alloc (.cells #[.slice none 0 0] 26)).alloc (.cells #[.int .i64 0, .slice none 0 0, .slice none 0 0] 29)) 29 #[.int .i64 0, .slice none 0 0, .slice none 0 0];simpa using this
 have H0:=Lib.hid (And.intro (h.below hb0) (And.intro hb0 (And.intro R0 (And.intro Q0 Y0))))
 clear h hb0 R0 Q0 Y0
 go_enter Tryd.func7,Tryd.ntmps7
 go_upto_region 1 with fail
 rw [←hW0]
 clear hW0
 go_wp2_with fail
 refine (l1New_any v l w.heap.size W0 H0.out.1 hl).mono ?_
 rintro e w1 ⟨rfl,xc,rfl⟩
 obtain ⟨W1,hW1⟩:∃W1,W1=W0.alloc (.cells #[v, .int .i64 0, .int .i64 xc] 98):=⟨_,rfl⟩
 rw [←hW1]
 have h01:Below W0.heap.size W0 W1:=by rw [hW1];exact (Below.refl _ _).alloc (Nat.le_refl _) _
 have hc1:CurW W0.heap.size v l W1:=by rw [hW1];exact ⟨(SlB.more (B':=W0.heap.size) H0.out.1 (by omega)).below ((Below.refl _ _).alloc (Nat.le_refl _) _),cur_new⟩
 have H1:=Lib.hid (And.intro hc1 (And.intro (below_step h01 H0.out.2.1) (And.intro (H0.out.2.2.1.below h01) (And.intro (H0.out.2.2.2.1.below h01) (H0.out.2.2.2.2.below h01)))))
 have hz1:W0.heap.size < W1.heap.size:=hc1.lt
 clear hW1 h01 hc1 H0
 go_wp2_with fail
 refine (l22One_0 W0.heap.size v l W1 H1.out.1).mono ?_
 rintro e w2 ⟨A,c,L,x,S,r,rfl,hdr,hl1,hl9,hxs,hSs,⟨hr1,hr2⟩,hst,hgo,hcu⟩
 obtain ⟨A5,c5,e5, -⟩:=hst.now.2.bytes.open_
 obtain ⟨A6,c6,e6, -⟩:=hst.now.2.its.open_
 unfold vmV
 rw [e5,e6]
 obtain ⟨W3,hW3⟩:∃W3,W3=(w2.alloc (.cells #[.slice A L.length c] 26)).alloc (.cells #[.int .i64 x.n, .slice A5 x.b.length c5, .slice A6 x.items.length c6] 29):=⟨_,rfl⟩
 have h23:Below w2.heap.size w2 W3:=by rw [hW3];exact ((Below.refl w2.heap.size w2).alloc (Nat.le_refl _) _).alloc (by simp) _
 have D3:Blk W3 w2.heap.size 26 #[.slice A L.length c]:=by rw [hW3];exact (Blk.new w2 _ _).alloc _
 have V3:Blk W3 (w2.heap.size+1) 29 #[.int .i64 x.n,x.vb,x.vi]:=by rw [hW3,e5,e6];have:=Blk.new (w2.alloc (.cells #[.slice A L.length c] 26)) 29 #[.int .i64 x.n, .slice A5 x.b.length c5, .slice A6 x.items.length c6];simpa using this
 have hz2:=hgo.size
 have hgo3:=hgo.trans (GoB.of_below h23)
 have H3:=Lib.hid (And.intro (hcu.below h23) (And.intro (hgo3.below H1.out.2.1 (by have:=H1.out.2.1.size;omega) (by omega)) (And.intro (H1.out.2.2.1.go hgo3 (by omega)) (And.intro (H1.out.2.2.2.1.go hgo3 (by omega)) (And.intro (H1.out.2.2.2.2.go hgo3 (by omega)) (And.intro D3 (And.intro V3 (hst.below h23))))))))
 have hz3:w2.heap.size+1 < W3.heap.size:=V3.lt
 have HDR:=Lib.hid hdr
 have HE5:=Lib.hid (And.intro e5 e6)
 have hlm:(L.map RM.d).length=L.length:=List.length_map ..
 clear hst hgo hcu hgo3 h23 D3 V3 H1 hdr e5 e6
 go_upto_region 3 with fail
 rw [←hW3]
 clear hW3
 go_wp2_with fail
 refine (below_any W0.heap.size W0.heap.size v l 3 W3 H3.out.1 (by omega) (by omega)).mono ?_
 rintro e w4 ⟨⟨z,rfl,hz0',hz1'⟩,hs,hzq,hc4⟩
 obtain ⟨W5,hW5⟩:∃W5,W5=w4.alloc (.cells #[.int .i64 z, .slice none 0 0, .slice none 0 0] 29):=⟨_,rfl⟩
 have h45:Below w4.heap.size w4 W5:=by rw [hW5];exact (Below.refl _ _).alloc (Nat.le_refl _) _
 have hgo5:=hs.trans (GoB.of_below h45)
 have hz4:=hs.size
 have Y5:Blk W5 w4.heap.size 29 #[.int .i64 z, .slice none 0 0, .slice none 0 0]:=by rw [hW5];exact Blk.new w4 _ _
 have hz5:w4.heap.size < W5.heap.size:=Y5.lt
 have HC5:=Lib.hid (hc4.below h45)
 have HS5:=Lib.hid (H3.out.2.2.2.2.2.2.2.go hgo5 (by omega))
 have H5:=Lib.hid (And.intro (hgo5.below H3.out.2.1 (by have:=H3.out.2.1.size;omega) (by omega)) (And.intro (H3.out.2.2.1.go hgo5 (by omega)) (And.intro (H3.out.2.2.2.1.go hgo5 (by omega)) (And.intro (H3.out.2.2.2.2.1.go hgo5 (by omega)) (And.intro (H3.out.2.2.2.2.2.1.go hgo5 (by omega)) (And.intro (H3.out.2.2.2.2.2.2.1.go hgo5 (by omega)) Y5))))))
 have hN:∀y:VM,y= .mk z [] (.slice none 0 0) (.slice none 0 0) []→∀W,GoB W0.heap.size W5 W→DrS (.slice A L.length c) L w w2.heap.size (w2.heap.size+1) w4.heap.size x y W:=fun y hy W hg=> by
  subst hy
  have hgs:=hg.size
  refine ⟨hg.below H5.out.1 (by have:=H5.out.1.size;omega) (by omega),H5.out.2.1.go hg (by omega),H5.out.2.2.1.go hg (by omega),H5.out.2.2.2.1.go hg (by omega),H5.out.2.2.2.2.1.go hg (by omega),H5.out.2.2.2.2.2.1.go hg (by omega),H5.out.2.2.2.2.2.2.go hg (by omega),⟨Nat.le_refl _,fun W' h1 k1=> ?_⟩,by omega,by omega,by omega⟩
  have:=(HS5.out.go hg (by omega)).2 W' h1 fun k q1 q2=> k1 k (by omega) (by omega)
  exact ⟨this.1.more (by omega),this.2.more (by omega), .mk (Sl.nil _ _ _) (Sl.nil _ _ _) (by simp)⟩
 have HN:=Lib.hid hN
 clear hzq hs hc4 h45 hgo5 Y5 hN H3
 go_upto_region 4 with fail
 rw [←hW5]
 clear hW5
 by_cases hr0:0≤r
 ·obtain ⟨k,rfl⟩:=Int.eq_ofNat_of_zero_le hr0
  have hkl:k < L.length:=by omega
  have hdk:decide ((0:Int)≤(k:Int))=true:=decide_eq_true hr0
  go_wp2_with fail
  refine (l1Once_any W0.heap.size W0.heap.size v l 5 W5 HC5.out (by omega) (by omega)).mono ?_
  rintro e w6 ⟨⟨t,rfl⟩,hg6,hzq,hc6⟩
  have HG6:=Lib.hid hg6
  have hz6:=hg6.size
  have HC6:=Lib.hid hc6
  clear hzq hg6 hc6 HC5
  cases t with
  |true=>
   obtain ⟨y,hyq⟩:∃y:VM,y= .mk z [] (.slice none 0 0) (.slice none 0 0) []:=⟨_,rfl⟩
   have hys:y.d.size≤589824:=by rw [hyq,VM.d_mk,Val.size_mk];simp [Val.sizes_nil]
   obtain ⟨W9,hW9⟩:∃W9,W9=w6:=⟨_,rfl⟩
   have HZ:=Lib.hid (HN.out y hyq w6 HG6.out)
   rw [←hW9] at HZ ⊢
   clear hW9 hyq HN
   obtain ⟨Wz,hWz⟩:∃Wz,Wz=W9.drew:=⟨_,rfl⟩
   have kd:Blk W9 w2.heap.size 26 #[.slice A L.length c]:=HZ.out.dbox
   have kv:Blk W9 (w2.heap.size+1) 29 #[.int .i64 x.n,x.vb,x.vi]:=HZ.out.vbox
   have ky:Blk W9 w4.heap.size 29 #[.int .i64 y.n,y.vb,y.vi]:=HZ.out.ybox
   obtain ⟨A7,c7,e7, -⟩:=HZ.out.st.now.2.2.bytes.open_
   obtain ⟨A8,c8,e8, -⟩:=HZ.out.st.now.2.2.its.open_
   rw [HE5.out.1,HE5.out.2] at kv
   rw [e7,e8] at ky
   have HE7:=Lib.hid (And.intro e7 e8)
   have hgy:=HZ.out.hy
   have k0:W9.cell? ⟨w2.heap.size,0,none⟩=some (.slice A L.length c):=kd.cell 0 rfl
   obtain ⟨⟨k1,k2,k3⟩, -⟩:=kv.c3
   obtain ⟨⟨k4,k5,k6⟩, -⟩:=ky.c3
   have r0:W9.cell? ⟨w.heap.size,0,none⟩=some (.slice none 0 0):=HZ.out.res.cell 0 rfl
   have rf:W9.frozen? ⟨w.heap.size,0,none⟩=false:=HZ.out.res.frozen 0
   clear hWz e7 e8
   go_wp2_with fail
   refine wp_region_held_drew (S:=(fun w9=> w9.cell? ⟨w2.heap.size,0,none⟩=some (.slice A L.length c)∧w9.cell? ⟨w2.heap.size+1,0,none⟩=some (.int .i64 x.n)∧w9.cell? ⟨w2.heap.size+1,1,none⟩=some (.slice A5 x.b.length c5)∧w9.cell? ⟨w2.heap.size+1,2,none⟩=some (.slice A6 x.items.length c6)∧w9.cell? ⟨w4.heap.size,0,none⟩=some (.int .i64 y.n)∧w9.cell? ⟨w4.heap.size,1,none⟩=some (.slice A7 y.b.length c7)∧w9.cell? ⟨w4.heap.size,2,none⟩=some (.slice A8 y.items.length c8))) (by kernel_rfl) ?_ (fun hHeld=> ?_)
   ·(try dsimp only);exact ⟨k0,k1,k2,k3,k4,k5,k6⟩
   refine rgTake 0 (some 35) hHeld _ ?_;try go_frame
   refine rgTake 1 (some 36) hHeld _ ?_;try go_frame
   refine rgTake 2 (some 37) hHeld _ ?_;try go_frame
   refine rgTake 3 (some 38) hHeld _ ?_;try go_frame
   refine rgStep 4 (fun K hK=> ?_)
   (try go_simp)
   obtain ⟨Y1,hY⟩:∃V,V=(W9.setCell ⟨w.heap.size,0,none⟩ (.slice A L.length c)).drew:=⟨_,rfl⟩;rw [←hY];have kd:Blk Y1 w2.heap.size 26 #[.slice A L.length c]:=(by rw [hY];exact kd.other (by omega) _);have kv:Blk Y1 (w2.heap.size+1) 29 #[.int .i64 x.n, .slice A5 x.b.length c5, .slice A6 x.items.length c6]:=(by rw [hY];exact kv.other (by omega) _);have ky:Blk Y1 w4.heap.size 29 #[.int .i64 y.n, .slice A7 y.b.length c7, .slice A8 y.items.length c8]:=(by rw [hY];exact ky.other (by omega) _);have kq:Blk Y1 (w.heap.size+1) 29 #[.int .i64 0, .slice none 0 0, .slice none 0 0]:=(by rw [hY];exact HZ.out.req.other (by omega) _);have ks:Blk Y1 (w.heap.size+2) 29 #[.int .i64 0, .slice none 0 0, .slice none 0 0]:=(by rw [hY];exact HZ.out.rey.other (by omega) _);have HY1:=Lib.hid hY;clear hY k0 k1 k2 k3 k4 k5 k6;have k0:Y1.cell? ⟨w2.heap.size,0,none⟩=some (.slice A L.length c):=kd.cell 0 rfl;obtain ⟨⟨k1,k2,k3⟩, -⟩:=kv.c3;obtain ⟨⟨k4,k5,k6⟩, -⟩:=ky.c3;obtain ⟨⟨p0,p1,p2⟩,g0,g1,g2⟩:=kq.c3
   refine hK.out _ _ ?_ (fun hHeld=> ?_)
   ·(try dsimp only);exact ⟨k0,k1,k2,k3,k4,k5,k6⟩
   clear hK K
   try go_frame
   refine rgStep 5 (fun K hK=> ?_)
   (try go_simp)
   obtain ⟨Y2,hY⟩:∃V,V=((Y1.setCell ⟨w.heap.size+1,0,none⟩ (.int .i64 x.n)).setCell ⟨w.heap.size+1,1,none⟩ (.slice A5 x.b.length c5)).setCell ⟨w.heap.size+1,2,none⟩ (.slice A6 x.items.length c6):=⟨_,rfl⟩;rw [←hY];have kd:Blk Y2 w2.heap.size 26 #[.slice A L.length c]:=(by rw [hY];exact ((kd.other (by omega) _).other (by omega) _).other (by omega) _);have kv:Blk Y2 (w2.heap.size+1) 29 #[.int .i64 x.n, .slice A5 x.b.length c5, .slice A6 x.items.length c6]:=(by rw [hY];exact ((kv.other (by omega) _).other (by omega) _).other (by omega) _);have ky:Blk Y2 w4.heap.size 29 #[.int .i64 y.n, .slice A7 y.b.length c7, .slice A8 y.items.length c8]:=(by rw [hY];exact ((ky.other (by omega) _).other (by omega) _).other (by omega) _);have ks:Blk Y2 (w.heap.size+2) 29 #[.int .i64 0, .slice none 0 0, .slice none 0 0]:=(by rw [hY];exact ((ks.other (by omega) _).other (by omega) _).other (by omega) _);clear p0 p1 p2 g0 g1 g2;have HY2:=Lib.hid hY;clear hY k0 k1 k2 k3 k4 k5 k6;have k0:Y2.cell? ⟨w2.heap.size,0,none⟩=some (.slice A L.length c):=kd.cell 0 rfl;obtain ⟨⟨k1,k2,k3⟩, -⟩:=kv.c3;obtain ⟨⟨k4,k5,k6⟩, -⟩:=ky.c3;obtain ⟨⟨p0,p1,p2⟩,g0,g1,g2⟩:=ks.c3
   refine hK.out _ _ ?_ (fun hHeld=> ?_)
   ·(try dsimp only);exact ⟨k0,k1,k2,k3,k4,k5,k6⟩
   clear hK K
   try go_frame
   refine rgTake 6 (some 4) hHeld _ ?_;try go_frame
   refine rgStep 7 (fun K hK=> ?_)
   (try go_simp)
   obtain ⟨Y3,hY⟩:∃V,V=((Y2.setCell ⟨w.heap.size+2,0,none⟩ (.int .i64 y.n)).setCell ⟨w.heap.size+2,1,none⟩ (.slice A7 y.b.length c7)).setCell ⟨w.heap.size+2,2,none⟩ (.slice A8 y.items.length c8):=⟨_,rfl⟩;rw [←hY];have kd:Blk Y3 w2.heap.size 26 #[.slice A L.length c]:=(by rw [hY];exact ((kd.other (by omega) _).other (by omega) _).other (by omega) _);have kv:Blk Y3 (w2.heap.size+1) 29 #[.int .i64 x.n, .slice A5 x.b.length c5, .slice A6 x.items.length c6]:=(by rw [hY];exact ((kv.other (by omega) _).other (by omega) _).other (by omega) _);have ky:Blk Y3 w4.heap.size 29 #[.int .i64 y.n, .slice A7 y.b.length c7, .slice A8 y.items.length c8]:=(by rw [hY];exact ((ky.other (by omega) _).other (by omega) _).other (by omega) _);clear p0 p1 p2 g0 g1 g2;have HY3:=Lib.hid hY;clear hY k0 k1 k2 k3 k4 k5 k6;have k0:Y3.cell? ⟨w2.heap.size,0,none⟩=some (.slice A L.length c):=kd.cell 0 rfl;obtain ⟨⟨k1,k2,k3⟩, -⟩:=kv.c3;obtain ⟨⟨k4,k5,k6⟩, -⟩:=ky.c3
   refine hK.out _ _ ?_ (fun hHeld=> ?_)
   ·(try dsimp only);exact ⟨k0,k1,k2,k3,k4,k5,k6⟩
   clear hK K
   try go_frame
   refine wpAnyH_done (by kernel_rfl) ?_ _
   obtain ⟨Wf,hWf,hR,hQ,hP,hbel,hdd,hxx,hyy⟩:=HZ.out.fin
   rw [HE5.out.1,HE5.out.2,HE7.out.1,HE7.out.2] at hWf
   rw [HE5.out.1,HE5.out.2] at hQ
   rw [HE7.out.1,HE7.out.2] at hP
   have hYf:Y3=Wf.drew:=by rw [HY3.out,HY2.out,HY1.out,hWf];simp only [drew_set]
   rw [hYf]
   have t0:Wf.drew.cell? ⟨w.heap.size,0,none⟩=some (.slice A L.length c):=hR.cell 0 rfl
   obtain ⟨⟨t1,t2,t3⟩, -⟩:=(show Blk Wf.drew _ _ _ from hQ).c3
   obtain ⟨⟨t4,t5,t6⟩, -⟩:=(show Blk Wf.drew _ _ _ from hP).c3
   clear k0 k1 k2 k3 k4 k5 k6 r0 rf kd kv ky kq ks hYf hWf hHeld
   go_wp2
   exact bodyPost_ret (v:= .tuple #[.agg #[.slice A L.length c], .agg #[.int .i64 x.n, .slice A5 x.b.length c5, .slice A6 x.items.length c6], .string S, .agg #[.int .i64 y.n, .slice A7 y.b.length c7, .slice A8 y.items.length c8]]) (by simp [results,Tryd.results7,go_sem,t0,t1,t2,t3,t4,t5,t6]) rfl
    ⟨A,c,L,x,y,S,by unfold vmV;rw [HE5.out.1,HE5.out.2,HE7.out.1,HE7.out.2],HDR.out,hl1,hl9,hxs,hys,hSs,hdd.below (Below.refl _ _).drew,hxx.bel (Below.refl _ _).drew,hyy.bel (Below.refl _ _).drew,hbel.drew⟩
  |false=>
   have hMk:Calls Tryd.prog 28 #[.pointer (some ⟨W0.heap.size,0,none⟩), .agg #[.slice A L.length c], .int .i64 k, .int .i64 6] w6 (MadeV W0.heap.size v l L k w6):=
    l9Make_any W0.heap.size W1.heap.size w2.heap.size v _ l L k 6 w6 HC6.out ((HS5.out.go HG6.out (by omega)).imp fun _ h=> h.1) (by omega) (by omega) HDR.out hl9 hkl (by omega)
   have HMK:=Lib.hid hMk
   have kd0:w6.cell? ⟨w2.heap.size,0,none⟩=some (.slice A L.length c):=(H5.out.2.2.2.2.1.go HG6.out (by omega)).cell 0 rfl
   have hsb:=sB_bd (k:=k) (by omega)
   clear hMk
   go_upto_region 6 with (go_at_call 28;refine HMK.out.mono ?_;rintro e w7 ⟨y,rfl,hyv,hys,hyo,hgo7,hcu7⟩;obtain ⟨P5,d5,ew5⟩:=own_slice hyo.own.bytes;obtain ⟨P6,d6,ew6⟩:=own_slice hyo.own.row;have HY7:=Lib.hid (And.intro hyo (And.intro hgo7 (And.intro ew5 ew6)));unfold vmV;rw [ew5,ew6];have ky7:=(H5.out.2.2.2.2.2.2.go HG6.out (by omega)).go hgo7 (by omega);clear kd0 hyo hgo7 hcu7 hyv ew5 ew6;obtain ⟨⟨k1,k2,k3⟩,kf1,kf2,kf3⟩:=ky7.c3)
   obtain ⟨W9,hW9⟩:∃W9,W9=((w7.setCell ⟨w4.heap.size,0,none⟩ (.int .i64 y.n)).setCell ⟨w4.heap.size,1,none⟩ (.slice P5 y.b.length d5)).setCell ⟨w4.heap.size,2,none⟩ (.slice P6 y.items.length d6):=⟨_,rfl⟩
   rw [←hW9]
   have hz7:=HY7.out.2.1.size
   have HZ:=Lib.hid (show DrS (.slice A L.length c) L w w2.heap.size (w2.heap.size+1) w4.heap.size x y W9 by
    have hgo57:GoB W0.heap.size W5 w7:=HG6.out.trans HY7.out.2.1
    have hset:∀q,q≠w4.heap.size→W9.heap[q]?=w7.heap[q]?:=fun q hq=> by rw [hW9,Below.heap_setCell _ _ _ q hq,Below.heap_setCell _ _ _ q hq,Below.heap_setCell _ _ _ q hq]
    have hsz:W9.heap.size=w7.heap.size:=by rw [hW9];simp [World.setCell]
    have hkp:∀{T:TypeId} {cs:Array Value} {q:Nat},Blk W5 q T cs→q≠W0.heap.size→q≠w4.heap.size→Blk W9 q T cs:=fun hb h1 h2=> (hset _ h2).trans (hb.go hgo57 (fun e=> h1 e.symm))
    have hyo9:y.own w6.heap.size W9:=HY7.out.1.own.keep fun q hq=> hset q (by have:=(HY7.out.1.own.lt q hq).1;omega)
    refine ⟨?_,hkp H5.out.2.1 (by omega) (by omega),hkp H5.out.2.2.1 (by omega) (by omega),hkp H5.out.2.2.2.1 (by omega) (by omega),hkp H5.out.2.2.2.2.1 (by omega) (by omega),hkp H5.out.2.2.2.2.2.1 (by omega) (by omega),?_,⟨Nat.le_refl _,fun W' h1 k1=> ?_⟩,by omega,by omega,by omega⟩
    ·rw [hW9];exact below_setQ (below_setQ (below_setQ (hgo57.below H5.out.1 (by have:=H5.out.1.size;omega) (by omega)) (by omega) _) (by omega) _) (by omega) _
    ·rw [hW9,HY7.out.2.2.1,HY7.out.2.2.2]
     have:=((ky7.set 0 (.int .i64 y.n)).set 1 (.slice P5 y.b.length d5)).set 2 (.slice P6 y.items.length d6)
     simpa using this
    ·have:=(HS5.out.go hgo57 (by omega)).2 W' (by omega) fun q q1 q2=> (k1 q (by omega) (by omega)).trans (hset q (by omega))
     exact ⟨this.1.more (by omega),this.2.more (by omega),(hyo9.stays (lo:=w.heap.size+3) (by omega)).2 W' h1 k1⟩)
   have hys:y.d.size≤589824:=by omega
   clear hW9 ky7 k1 k2 k3 kf1 kf2 kf3 HY7 HMK HN
   obtain ⟨Wz,hWz⟩:∃Wz,Wz=W9.drew:=⟨_,rfl⟩
   have kd:Blk W9 w2.heap.size 26 #[.slice A L.length c]:=HZ.out.dbox
   have kv:Blk W9 (w2.heap.size+1) 29 #[.int .i64 x.n,x.vb,x.vi]:=HZ.out.vbox
   have ky:Blk W9 w4.heap.size 29 #[.int .i64 y.n,y.vb,y.vi]:=HZ.out.ybox
   obtain ⟨A7,c7,e7, -⟩:=HZ.out.st.now.2.2.bytes.open_
   obtain ⟨A8,c8,e8, -⟩:=HZ.out.st.now.2.2.its.open_
   rw [HE5.out.1,HE5.out.2] at kv
   rw [e7,e8] at ky
   have HE7:=Lib.hid (And.intro e7 e8)
   have hgy:=HZ.out.hy
   have k0:W9.cell? ⟨w2.heap.size,0,none⟩=some (.slice A L.length c):=kd.cell 0 rfl
   obtain ⟨⟨k1,k2,k3⟩, -⟩:=kv.c3
   obtain ⟨⟨k4,k5,k6⟩, -⟩:=ky.c3
   have r0:W9.cell? ⟨w.heap.size,0,none⟩=some (.slice none 0 0):=HZ.out.res.cell 0 rfl
   have rf:W9.frozen? ⟨w.heap.size,0,none⟩=false:=HZ.out.res.frozen 0
   clear hWz e7 e8
   go_wp2_with fail
   refine wp_region_held_drew (S:=(fun w9=> w9.cell? ⟨w2.heap.size,0,none⟩=some (.slice A L.length c)∧w9.cell? ⟨w2.heap.size+1,0,none⟩=some (.int .i64 x.n)∧w9.cell? ⟨w2.heap.size+1,1,none⟩=some (.slice A5 x.b.length c5)∧w9.cell? ⟨w2.heap.size+1,2,none⟩=some (.slice A6 x.items.length c6)∧w9.cell? ⟨w4.heap.size,0,none⟩=some (.int .i64 y.n)∧w9.cell? ⟨w4.heap.size,1,none⟩=some (.slice A7 y.b.length c7)∧w9.cell? ⟨w4.heap.size,2,none⟩=some (.slice A8 y.items.length c8))) (by kernel_rfl) ?_ (fun hHeld=> ?_)
   ·(try dsimp only);exact ⟨k0,k1,k2,k3,k4,k5,k6⟩
   refine rgTake 0 (some 35) hHeld _ ?_;try go_frame
   refine rgTake 1 (some 36) hHeld _ ?_;try go_frame
   refine rgTake 2 (some 37) hHeld _ ?_;try go_frame
   refine rgTake 3 (some 38) hHeld _ ?_;try go_frame
   refine rgStep 4 (fun K hK=> ?_)
   (try go_simp)
   obtain ⟨Y1,hY⟩:∃V,V=(W9.setCell ⟨w.heap.size,0,none⟩ (.slice A L.length c)).drew:=⟨_,rfl⟩;rw [←hY];have kd:Blk Y1 w2.heap.size 26 #[.slice A L.length c]:=(by rw [hY];exact kd.other (by omega) _);have kv:Blk Y1 (w2.heap.size+1) 29 #[.int .i64 x.n, .slice A5 x.b.length c5, .slice A6 x.items.length c6]:=(by rw [hY];exact kv.other (by omega) _);have ky:Blk Y1 w4.heap.size 29 #[.int .i64 y.n, .slice A7 y.b.length c7, .slice A8 y.items.length c8]:=(by rw [hY];exact ky.other (by omega) _);have kq:Blk Y1 (w.heap.size+1) 29 #[.int .i64 0, .slice none 0 0, .slice none 0 0]:=(by rw [hY];exact HZ.out.req.other (by omega) _);have ks:Blk Y1 (w.heap.size+2) 29 #[.int .i64 0, .slice none 0 0, .slice none 0 0]:=(by rw [hY];exact HZ.out.rey.other (by omega) _);have HY1:=Lib.hid hY;clear hY k0 k1 k2 k3 k4 k5 k6;have k0:Y1.cell? ⟨w2.heap.size,0,none⟩=some (.slice A L.length c):=kd.cell 0 rfl;obtain ⟨⟨k1,k2,k3⟩, -⟩:=kv.c3;obtain ⟨⟨k4,k5,k6⟩, -⟩:=ky.c3;obtain ⟨⟨p0,p1,p2⟩,g0,g1,g2⟩:=kq.c3
   refine hK.out _ _ ?_ (fun hHeld=> ?_)
   ·(try dsimp only);exact ⟨k0,k1,k2,k3,k4,k5,k6⟩
   clear hK K
   try go_frame
   refine rgStep 5 (fun K hK=> ?_)
   (try go_simp)
   obtain ⟨Y2,hY⟩:∃V,V=((Y1.setCell ⟨w.heap.size+1,0,none⟩ (.int .i64 x.n)).setCell ⟨w.heap.size+1,1,none⟩ (.slice A5 x.b.length c5)).setCell ⟨w.heap.size+1,2,none⟩ (.slice A6 x.items.length c6):=⟨_,rfl⟩;rw [←hY];have kd:Blk Y2 w2.heap.size 26 #[.slice A L.length c]:=(by rw [hY];exact ((kd.other (by omega) _).other (by omega) _).other (by omega) _);have kv:Blk Y2 (w2.heap.size+1) 29 #[.int .i64 x.n, .slice A5 x.b.length c5, .slice A6 x.items.length c6]:=(by rw [hY];exact ((kv.other (by omega) _).other (by omega) _).other (by omega) _);have ky:Blk Y2 w4.heap.size 29 #[.int .i64 y.n, .slice A7 y.b.length c7, .slice A8 y.items.length c8]:=(by rw [hY];exact ((ky.other (by omega) _).other (by omega) _).other (by omega) _);have ks:Blk Y2 (w.heap.size+2) 29 #[.int .i64 0, .slice none 0 0, .slice none 0 0]:=(by rw [hY];exact ((ks.other (by omega) _).other (by omega) _).other (by omega) _);clear p0 p1 p2 g0 g1 g2;have HY2:=Lib.hid hY;clear hY k0 k1 k2 k3 k4 k5 k6;have k0:Y2.cell? ⟨w2.heap.size,0,none⟩=some (.slice A L.length c):=kd.cell 0 rfl;obtain ⟨⟨k1,k2,k3⟩, -⟩:=kv.c3;obtain ⟨⟨k4,k5,k6⟩, -⟩:=ky.c3;obtain ⟨⟨p0,p1,p2⟩,g0,g1,g2⟩:=ks.c3
   refine hK.out _ _ ?_ (fun hHeld=> ?_)
   ·(try dsimp only);exact ⟨k0,k1,k2,k3,k4,k5,k6⟩
   clear hK K
   try go_frame
   refine rgTake 6 (some 4) hHeld _ ?_;try go_frame
   refine rgStep 7 (fun K hK=> ?_)
   (try go_simp)
   obtain ⟨Y3,hY⟩:∃V,V=((Y2.setCell ⟨w.heap.size+2,0,none⟩ (.int .i64 y.n)).setCell ⟨w.heap.size+2,1,none⟩ (.slice A7 y.b.length c7)).setCell ⟨w.heap.size+2,2,none⟩ (.slice A8 y.items.length c8):=⟨_,rfl⟩;rw [←hY];have kd:Blk Y3 w2.heap.size 26 #[.slice A L.length c]:=(by rw [hY];exact ((kd.other (by omega) _).other (by omega) _).other (by omega) _);have kv:Blk Y3 (w2.heap.size+1) 29 #[.int .i64 x.n, .slice A5 x.b.length c5, .slice A6 x.items.length c6]:=(by rw [hY];exact ((kv.other (by omega) _).other (by omega) _).other (by omega) _);have ky:Blk Y3 w4.heap.size 29 #[.int .i64 y.n, .slice A7 y.b.length c7, .slice A8 y.items.length c8]:=(by rw [hY];exact ((ky.other (by omega) _).other (by omega) _).other (by omega) _);clear p0 p1 p2 g0 g1 g2;have HY3:=Lib.hid hY;clear hY k0 k1 k2 k3 k4 k5 k6;have k0:Y3.cell? ⟨w2.heap.size,0,none⟩=some (.slice A L.length c):=kd.cell 0 rfl;obtain ⟨⟨k1,k2,k3⟩, -⟩:=kv.c3;obtain ⟨⟨k4,k5,k6⟩, -⟩:=ky.c3
   refine hK.out _ _ ?_ (fun hHeld=> ?_)
   ·(try dsimp only);exact ⟨k0,k1,k2,k3,k4,k5,k6⟩
   clear hK K
   try go_frame
   refine wpAnyH_done (by kernel_rfl) ?_ _
   obtain ⟨Wf,hWf,hR,hQ,hP,hbel,hdd,hxx,hyy⟩:=HZ.out.fin
   rw [HE5.out.1,HE5.out.2,HE7.out.1,HE7.out.2] at hWf
   rw [HE5.out.1,HE5.out.2] at hQ
   rw [HE7.out.1,HE7.out.2] at hP
   have hYf:Y3=Wf.drew:=by rw [HY3.out,HY2.out,HY1.out,hWf];simp only [drew_set]
   rw [hYf]
   have t0:Wf.drew.cell? ⟨w.heap.size,0,none⟩=some (.slice A L.length c):=hR.cell 0 rfl
   obtain ⟨⟨t1,t2,t3⟩, -⟩:=(show Blk Wf.drew _ _ _ from hQ).c3
   obtain ⟨⟨t4,t5,t6⟩, -⟩:=(show Blk Wf.drew _ _ _ from hP).c3
   clear k0 k1 k2 k3 k4 k5 k6 r0 rf kd kv ky kq ks hYf hWf hHeld
   go_wp2
   exact bodyPost_ret (v:= .tuple #[.agg #[.slice A L.length c], .agg #[.int .i64 x.n, .slice A5 x.b.length c5, .slice A6 x.items.length c6], .string S, .agg #[.int .i64 y.n, .slice A7 y.b.length c7, .slice A8 y.items.length c8]]) (by simp [results,Tryd.results7,go_sem,t0,t1,t2,t3,t4,t5,t6]) rfl
    ⟨A,c,L,x,y,S,by unfold vmV;rw [HE5.out.1,HE5.out.2,HE7.out.1,HE7.out.2],HDR.out,hl1,hl9,hxs,hys,hSs,hdd.below (Below.refl _ _).drew,hxx.bel (Below.refl _ _).drew,hyy.bel (Below.refl _ _).drew,hbel.drew⟩
 ·have hdk:decide ((0:Int)≤r)=false:=decide_eq_false hr0
  obtain ⟨y,hyq⟩:∃y:VM,y= .mk z [] (.slice none 0 0) (.slice none 0 0) []:=⟨_,rfl⟩
  have hys:y.d.size≤589824:=by rw [hyq,VM.d_mk,Val.size_mk];simp [Val.sizes_nil]
  obtain ⟨W9,hW9⟩:∃W9,W9=W5:=⟨_,rfl⟩
  have HZ:=Lib.hid (HN.out y hyq W5 (GoB.of_below (Below.refl _ _)))
  rw [←hW9] at HZ ⊢
  clear hW9 hyq HN
  obtain ⟨Wz,hWz⟩:∃Wz,Wz=W9.drew:=⟨_,rfl⟩
  have kd:Blk W9 w2.heap.size 26 #[.slice A L.length c]:=HZ.out.dbox
  have kv:Blk W9 (w2.heap.size+1) 29 #[.int .i64 x.n,x.vb,x.vi]:=HZ.out.vbox
  have ky:Blk W9 w4.heap.size 29 #[.int .i64 y.n,y.vb,y.vi]:=HZ.out.ybox
  obtain ⟨A7,c7,e7, -⟩:=HZ.out.st.now.2.2.bytes.open_
  obtain ⟨A8,c8,e8, -⟩:=HZ.out.st.now.2.2.its.open_
  rw [HE5.out.1,HE5.out.2] at kv
  rw [e7,e8] at ky
  have HE7:=Lib.hid (And.intro e7 e8)
  have hgy:=HZ.out.hy
  have k0:W9.cell? ⟨w2.heap.size,0,none⟩=some (.slice A L.length c):=kd.cell 0 rfl
  obtain ⟨⟨k1,k2,k3⟩, -⟩:=kv.c3
  obtain ⟨⟨k4,k5,k6⟩, -⟩:=ky.c3
  have r0:W9.cell? ⟨w.heap.size,0,none⟩=some (.slice none 0 0):=HZ.out.res.cell 0 rfl
  have rf:W9.frozen? ⟨w.heap.size,0,none⟩=false:=HZ.out.res.frozen 0
  clear hWz e7 e8
  go_wp2_with fail
  refine wp_region_held_drew (S:=(fun w9=> w9.cell? ⟨w2.heap.size,0,none⟩=some (.slice A L.length c)∧w9.cell? ⟨w2.heap.size+1,0,none⟩=some (.int .i64 x.n)∧w9.cell? ⟨w2.heap.size+1,1,none⟩=some (.slice A5 x.b.length c5)∧w9.cell? ⟨w2.heap.size+1,2,none⟩=some (.slice A6 x.items.length c6)∧w9.cell? ⟨w4.heap.size,0,none⟩=some (.int .i64 y.n)∧w9.cell? ⟨w4.heap.size,1,none⟩=some (.slice A7 y.b.length c7)∧w9.cell? ⟨w4.heap.size,2,none⟩=some (.slice A8 y.items.length c8))) (by kernel_rfl) ?_ (fun hHeld=> ?_)
  ·(try dsimp only);exact ⟨k0,k1,k2,k3,k4,k5,k6⟩
  refine rgTake 0 (some 35) hHeld _ ?_;try go_frame
  refine rgTake 1 (some 36) hHeld _ ?_;try go_frame
  refine rgTake 2 (some 37) hHeld _ ?_;try go_frame
  refine rgTake 3 (some 38) hHeld _ ?_;try go_frame
  refine rgStep 4 (fun K hK=> ?_)
  (try go_simp)
  obtain ⟨Y1,hY⟩:∃V,V=(W9.setCell ⟨w.heap.size,0,none⟩ (.slice A L.length c)).drew:=⟨_,rfl⟩;rw [←hY];have kd:Blk Y1 w2.heap.size 26 #[.slice A L.length c]:=(by rw [hY];exact kd.other (by omega) _);have kv:Blk Y1 (w2.heap.size+1) 29 #[.int .i64 x.n, .slice A5 x.b.length c5, .slice A6 x.items.length c6]:=(by rw [hY];exact kv.other (by omega) _);have ky:Blk Y1 w4.heap.size 29 #[.int .i64 y.n, .slice A7 y.b.length c7, .slice A8 y.items.length c8]:=(by rw [hY];exact ky.other (by omega) _);have kq:Blk Y1 (w.heap.size+1) 29 #[.int .i64 0, .slice none 0 0, .slice none 0 0]:=(by rw [hY];exact HZ.out.req.other (by omega) _);have ks:Blk Y1 (w.heap.size+2) 29 #[.int .i64 0, .slice none 0 0, .slice none 0 0]:=(by rw [hY];exact HZ.out.rey.other (by omega) _);have HY1:=Lib.hid hY;clear hY k0 k1 k2 k3 k4 k5 k6;have k0:Y1.cell? ⟨w2.heap.size,0,none⟩=some (.slice A L.length c):=kd.cell 0 rfl;obtain ⟨⟨k1,k2,k3⟩, -⟩:=kv.c3;obtain ⟨⟨k4,k5,k6⟩, -⟩:=ky.c3;obtain ⟨⟨p0,p1,p2⟩,g0,g1,g2⟩:=kq.c3
  refine hK.out _ _ ?_ (fun hHeld=> ?_)
  ·(try dsimp only);exact ⟨k0,k1,k2,k3,k4,k5,k6⟩
  clear hK K
  try go_frame
  refine rgStep 5 (fun K hK=> ?_)
  (try go_simp)
  obtain ⟨Y2,hY⟩:∃V,V=((Y1.setCell ⟨w.heap.size+1,0,none⟩ (.int .i64 x.n)).setCell ⟨w.heap.size+1,1,none⟩ (.slice A5 x.b.length c5)).setCell ⟨w.heap.size+1,2,none⟩ (.slice A6 x.items.length c6):=⟨_,rfl⟩;rw [←hY];have kd:Blk Y2 w2.heap.size 26 #[.slice A L.length c]:=(by rw [hY];exact ((kd.other (by omega) _).other (by omega) _).other (by omega) _);have kv:Blk Y2 (w2.heap.size+1) 29 #[.int .i64 x.n, .slice A5 x.b.length c5, .slice A6 x.items.length c6]:=(by rw [hY];exact ((kv.other (by omega) _).other (by omega) _).other (by omega) _);have ky:Blk Y2 w4.heap.size 29 #[.int .i64 y.n, .slice A7 y.b.length c7, .slice A8 y.items.length c8]:=(by rw [hY];exact ((ky.other (by omega) _).other (by omega) _).other (by omega) _);have ks:Blk Y2 (w.heap.size+2) 29 #[.int .i64 0, .slice none 0 0, .slice none 0 0]:=(by rw [hY];exact ((ks.other (by omega) _).other (by omega) _).other (by omega) _);clear p0 p1 p2 g0 g1 g2;have HY2:=Lib.hid hY;clear hY k0 k1 k2 k3 k4 k5 k6;have k0:Y2.cell? ⟨w2.heap.size,0,none⟩=some (.slice A L.length c):=kd.cell 0 rfl;obtain ⟨⟨k1,k2,k3⟩, -⟩:=kv.c3;obtain ⟨⟨k4,k5,k6⟩, -⟩:=ky.c3;obtain ⟨⟨p0,p1,p2⟩,g0,g1,g2⟩:=ks.c3
  refine hK.out _ _ ?_ (fun hHeld=> ?_)
  ·(try dsimp only);exact ⟨k0,k1,k2,k3,k4,k5,k6⟩
  clear hK K
  try go_frame
  refine rgTake 6 (some 4) hHeld _ ?_;try go_frame
  refine rgStep 7 (fun K hK=> ?_)
  (try go_simp)
  obtain ⟨Y3,hY⟩:∃V,V=((Y2.setCell ⟨w.heap.size+2,0,none⟩ (.int .i64 y.n)).setCell ⟨w.heap.size+2,1,none⟩ (.slice A7 y.b.length c7)).setCell ⟨w.heap.size+2,2,none⟩ (.slice A8 y.items.length c8):=⟨_,rfl⟩;rw [←hY];have kd:Blk Y3 w2.heap.size 26 #[.slice A L.length c]:=(by rw [hY];exact ((kd.other (by omega) _).other (by omega) _).other (by omega) _);have kv:Blk Y3 (w2.heap.size+1) 29 #[.int .i64 x.n, .slice A5 x.b.length c5, .slice A6 x.items.length c6]:=(by rw [hY];exact ((kv.other (by omega) _).other (by omega) _).other (by omega) _);have ky:Blk Y3 w4.heap.size 29 #[.int .i64 y.n, .slice A7 y.b.length c7, .slice A8 y.items.length c8]:=(by rw [hY];exact ((ky.other (by omega) _).other (by omega) _).other (by omega) _);clear p0 p1 p2 g0 g1 g2;have HY3:=Lib.hid hY;clear hY k0 k1 k2 k3 k4 k5 k6;have k0:Y3.cell? ⟨w2.heap.size,0,none⟩=some (.slice A L.length c):=kd.cell 0 rfl;obtain ⟨⟨k1,k2,k3⟩, -⟩:=kv.c3;obtain ⟨⟨k4,k5,k6⟩, -⟩:=ky.c3
  refine hK.out _ _ ?_ (fun hHeld=> ?_)
  ·(try dsimp only);exact ⟨k0,k1,k2,k3,k4,k5,k6⟩
  clear hK K
  try go_frame
  refine wpAnyH_done (by kernel_rfl) ?_ _
  obtain ⟨Wf,hWf,hR,hQ,hP,hbel,hdd,hxx,hyy⟩:=HZ.out.fin
  rw [HE5.out.1,HE5.out.2,HE7.out.1,HE7.out.2] at hWf
  rw [HE5.out.1,HE5.out.2] at hQ
  rw [HE7.out.1,HE7.out.2] at hP
  have hYf:Y3=Wf.drew:=by rw [HY3.out,HY2.out,HY1.out,hWf];simp only [drew_set]
  rw [hYf]
  have t0:Wf.drew.cell? ⟨w.heap.size,0,none⟩=some (.slice A L.length c):=hR.cell 0 rfl
  obtain ⟨⟨t1,t2,t3⟩, -⟩:=(show Blk Wf.drew _ _ _ from hQ).c3
  obtain ⟨⟨t4,t5,t6⟩, -⟩:=(show Blk Wf.drew _ _ _ from hP).c3
  clear k0 k1 k2 k3 k4 k5 k6 r0 rf kd kv ky kq ks hYf hWf hHeld
  go_wp2
  exact bodyPost_ret (v:= .tuple #[.agg #[.slice A L.length c], .agg #[.int .i64 x.n, .slice A5 x.b.length c5, .slice A6 x.items.length c6], .string S, .agg #[.int .i64 y.n, .slice A7 y.b.length c7, .slice A8 y.items.length c8]]) (by simp [results,Tryd.results7,go_sem,t0,t1,t2,t3,t4,t5,t6]) rfl
   ⟨A,c,L,x,y,S,by unfold vmV;rw [HE5.out.1,HE5.out.2,HE7.out.1,HE7.out.2],HDR.out,hl1,hl9,hxs,hys,hSs,hdd.below (Below.refl _ _).drew,hxx.bel (Below.refl _ _).drew,hyy.bel (Below.refl _ _).drew,hbel.drew⟩
end Go.Proofs.YteldgdelmaeokaaDoor
