/- The walk of the law FnLeaves. No condition but those of its argument. -/
import Derived.Test.YteldgdelmaeokaaDoorGli
import Derived.Test.YteldgdelmaeokaaDoorGlg
import Derived.Test.YteldgdelmaeokaaDoorGa
import Derived.BigQuiet
import Derived.Deep.QuietTactic
import Derived.IntWalk
import Derived.WalkSpells
import Derived.WalkLawsBesides
import Derived.Deep.RegionHeld3
import Derived.Deep.DeepCutAuto
set_option linter.unusedSimpArgs false
set_option linter.unusedVariables false
namespace Go.Proofs.YteldgdelmaeokaaDoor.FnLeaves
open Go.RowKit
theorem text0 (X:ByteArray):entText ⟨#[]⟩ (str (fmtI 0)) X=(⟨#[46,32,48,45]⟩:ByteArray)++X:=by
 have e:pText ⟨#[]⟩++⟨#[32]⟩++str (fmtI 0)++⟨#[45]⟩=(⟨#[46,32,48,45]⟩:ByteArray):=by
  have e1:fmtI 0= [48]:=rfl
  have e2:pText ⟨#[]⟩=⟨#[46]⟩:=if_pos (by rw [show (⟨#[]⟩:ByteArray).toList= [] from by unfold ByteArray.toList ByteArray.toList.loop;rfl];rfl)
  rw [e1,e2]
  rfl
 unfold entText
 rw [e]
set_option maxHeartbeats 4000000 in
set_option maxRecDepth 100000 in
theorem walk (v:Value) (l:List UInt8) (w:World) (h:SlB w w.heap.size v l) (ht:Tab w):
  Calls Tryd.prog 5 #[v] w fun e w'=> e= .returned (.bool true)∧Below w.heap.size w w':=by
 obtain ⟨A0,c0,rfl,hcc⟩:=h.open_
 clear hcc
 by_cases hbig:1048576 < (l.length:Int)
 ·have HB:=Lib.hid hbig
  clear hbig
  go_enter Tryd.func5,Tryd.ntmps5
  go_wp2_with fail
  refine (big_any _ l _ w h).mono ?_
  rintro e w1 ⟨rfl,rfl⟩
  rw [decide_eq_true HB.out]
  go_wp2
  go_ret
  exact ⟨rfl,Below.refl _ _⟩
 have hl:l.length≤1048576:=by omega
 have HT:=Lib.hid ht
 clear hbig ht
 go_enter Tryd.func5,Tryd.ntmps5
 go_wp2_with fail
 refine (big_any _ l _ w h).mono ?_
 rintro e w1 ⟨rfl,rfl⟩
 rw [decide_eq_false (show ¬(1048576 < (l.length:Int)) by omega)]
 go_wp2_with fail
 refine (drawIndexed_any _ l w h hl).mono ?_
 rintro e w1 ⟨A,c,L,u,b,vx,es,rfl,hdr,hl1,hl6,hb4,hub,HIX,hve,hsd,hb1⟩
 have ht1:=tab_on HT.out hb1
 have hlm:(L.map RM.d).length=L.length:=List.length_map ..
 obtain ⟨Ab,cb,rfl,hcb,hmb, -⟩:=hub.one
 obtain ⟨Ae,ce,rfl,hce,hme,hec⟩:=hve.open_
 have HB1:=Lib.hid hb1
 have hesl:es.length≤1000000000000:=by
  rcases HIX.out with h|h
  ·rw [h];simp
  ·have h2:=congrArg List.length h.2.1
   rw [List.length_map,List.length_map] at h2
   have h3:=ixE_len (b:=b) (hdr.valid (by omega) (by omega)) (L.map RM.d).length (L.map RM.d).length ((L.map RM.d).length - 1:Nat) 0
   have h4:=mxE_bd (f:=(L.map RM.d).length) (by omega)
   omega
 by_cases hne:es.length=0
 ·have HF:=Lib.hid (hb1.alloc hb1.size (.cells #[.slice A L.length c] 26))
  rw [hne]
  clear hne hec hve hsd hub hb1 h HT ht1 hdr
  go_wp2
  go_ret
  exact ⟨rfl,HF.out⟩
 have hLO:=leaf_ok (by omega) HIX.out (fun e=> hne (by rw [e];rfl))
 have hEA:∀(x:Int) W,Below w1.heap.size w1 W→Calls Tryd.prog 20 #[.slice Ae es.length ce, .int .i64 x] W fun e w'=> e= .returned (.int .i64 (lastTo (hit (holdsAt x) es) es.length))∧Below W.heap.size W w':=fun x W hw=>
  implEntryAt_any _ es x W.heap.size W ((hve.below hw).more hw.size) (Nat.le_refl _)
 have hLE:∀W,Below w1.heap.size w1 W→Calls Tryd.prog 21 #[.agg #[.slice A L.length c], .slice Ae es.length ce] W (Fresh W 49 4 (es.filter (leafB (L.map RM.d))).length (entsCells (es.filter (leafB (L.map RM.d))))):=fun W hw=>
  implLeaf_any _ _ L es W.heap.size W ((hsd.below hw).more hw.size) ((hve.below hw).more hw.size) (Nat.le_refl _) hesl
 obtain ⟨h0,hp0,hs0,ht0⟩:=hLO.hd
 have hFE:∀W,Below w1.heap.size w1 W→Calls Tryd.prog 22 #[.agg #[.string es[0].path, .int .i64 es[0].rule, .int .i64 es[0].start, .int .i64 es[0].stop]] W fun e w'=> e= .returned (.string ((⟨#[46,32,48,45]⟩:ByteArray)++str (fmtI b.length)))∧Below W.heap.size W w':=fun W hw=> by
  have:=implFormatEntry_any es[0].path es[0].rule es[0].start es[0].stop W (by rw [hp0];decide) (by rw [hs0];unfold InI64;omega) (by rw [ht0];unfold InI64;omega) (tab_on ht1 hw)
  rw [hp0,hs0,ht0,text0] at this
  rw [hp0,hs0,ht0]
  exact this
 have hFI:∀W,Below w1.heap.size w1 W→Calls Tryd.prog 23 #[.int .i64 b.length] W fun e w'=> e= .returned (.string (str (fmtI b.length)))∧Below W.heap.size W w':=fun W hw=> specFormatInt_any b.length W (by omega)
 obtain ⟨be,oe,rfl,hbe, -⟩:=hec 0 h0
 have hCE:∀q (hq:q < es.length) W,Below w1.heap.size w1 W→W.cell? ⟨be,oe+q*4,none⟩=some (.string es[q].path)∧W.cell? ⟨be,oe+q*4+1,none⟩=some (.int .i64 es[q].rule)∧W.cell? ⟨be,oe+q*4+2,none⟩=some (.int .i64 es[q].start)∧W.cell? ⟨be,oe+q*4+3,none⟩=some (.int .i64 es[q].stop):=fun q hq W hw=> by
  obtain ⟨be',oe',e1,h2,h3,h4,h5,h6⟩:=hec q hq
  cases e1
  exact ⟨cell_keep h3 hw h2,cell_keep h4 hw h2,cell_keep h5 hw h2,cell_keep h6 hw h2⟩
 have hAT:∀k:Nat,k < b.length→∃(q:Nat) (hq:q < es.length),lastTo (hit (holdsAt k) es) es.length=q∧es[q].start≤k∧(k:Int) < es[q].stop:=fun k hk=> at_in hLO hk
 have hAE:lastTo (hit (holdsAt (b.length:Int)) es) es.length= -1:=at_end hLO
 have HOR:=Lib.hid hLO.ord
 have HEA:=Lib.hid hEA
 have HLE:=Lib.hid hLE
 have HFE:=Lib.hid hFE
 have HFI:=Lib.hid hFI
 have HCE:=Lib.hid hCE
 have HAT:=Lib.hid hAT
 have HAE:=Lib.hid hAE
 have hcs:¬(9223372036854775807 < 4+(str (fmtI (b.length:Int))).size):=by
  have:=fmtI_size b.length ⟨by omega,by omega⟩
  omega
 unfold maxLen at hmb hme
 clear hEA hLE hFE hFI hCE hAT hAE hLO hec hve hsd hub hb1 h HT ht1 hdr hp0 hs0 ht0 HIX hlm
 have hnz:¬((es.length:Int)=0):=by omega
 obtain ⟨W2,hW2⟩:∃V,V=w1.alloc (.cells #[.slice A L.length c] 26):=⟨_,rfl⟩
 have bW2:=Lib.hid (show Below w1.heap.size w1 W2 by rw [hW2];exact (Below.refl w1.heap.size w1).alloc (Nat.le_refl _) _)
 have Kq:=Lib.hid (show Blk W2 (w1.heap.size) 26 #[.slice A L.length c] by rw [hW2];exact Blk.new w1 _ _)
 have hz2:w1.heap.size < W2.heap.size:=Kq.out.lt
 go_upto_region 4 with fail
 rw [←hW2]
 clear hW2
 go_wp2
 go_loopw [6] (fun i wr=> ∃k:Nat,k≤b.length∧i= .int .i64 k∧Below W2.heap.size W2 wr) (fun i _=> b.length - (intOf i).toNat)
 case atStart=> exact ⟨0,Nat.zero_le _,rfl,Below.refl _ _⟩
 case round=>
  obtain ⟨k,hk,rfl,hb⟩:=hrel
  have hszr:=hb.size
  have bq:=below_step hb bW2.out
  have HB:=Lib.hid (And.intro hb bq)
  clear hb bq
  by_cases hlt:k < b.length
  ·obtain ⟨q,hq,e1,e2,e3⟩:=HAT.out k hlt
   have HCQ:=Lib.hid (HCE.out q hq)
   generalize es[q]=E at*
   clear HAT HAE HFE HFI HLE HCE
   go_wp2_with fail
   refine (HEA.out k _ HB.out.2).mono ?_
   rintro e w3 ⟨rfl,bel⟩
   rw [e1]
   have HB:=Lib.hid (And.intro (below_step bel HB.out.1) (below_step bel HB.out.2))
   obtain ⟨-, -,x2,x3⟩:=HCQ.out w3 HB.out.2
   clear bel e1
   have q0:¬((q:Int) < 0):=by omega
   have q1:¬((es.length:Int)≤(q:Int)):=by omega
   have q2:¬((k:Int) < E.start):=by omega
   have q3:¬(E.stop≤(k:Int)):=by omega
   go_wp2
   go_roundw
   case rel=> exact ⟨k+1,by omega,by go_num,HB.out.1⟩
   case measure=> simp [intOf];omega
  ·obtain rfl:k=b.length:=by omega
   have qL:wr.cell? ⟨w1.heap.size,0,none⟩=some (.slice A L.length c):=(Kq.out.below HB.out.1).cell 0 rfl
   go_wp2_with fail
   refine (HLE.out _ HB.out.2).mono ?_
   rintro e w3 ⟨vx,rfl,own,bel⟩
   have HB:=Lib.hid (below_step bel HB.out.2)
   clear bel
   have hX:=Sl.of_own own
   clear own
   have hX:SlE w3 w3.heap.size vx (es.filter (leafB (L.map RM.d))):=hX
   generalize es.filter (leafB (L.map RM.d))=xs at*
   obtain ⟨Ax,cx,rfl,hcx,hmx,hxc⟩:=hX.open_
   have HXC:=Lib.hid hxc
   clear hxc hX
   unfold maxLen at hmx
   go_wp2
   go_loopw [9] (fun i wr=> ∃k:Nat,1≤k∧k≤max 1 xs.length∧i= .int .i64 k∧Below w3.heap.size w3 wr) (fun i _=> xs.length - (intOf i).toNat)
   case atStart=> exact ⟨1,by omega,by omega,rfl,Below.refl _ _⟩
   case round=>
    obtain ⟨k,hk1,hk,rfl,hb⟩:=hrel
    have hszr:=hb.size
    have HB:=Lib.hid (And.intro hb (below_step hb HB.out))
    by_cases hlt:k < xs.length
    ·have hor:=List.pairwise_iff_getElem.1 HOR.out (k - 1) k (by omega) hlt (by omega)
     obtain ⟨bx,ox,rfl,hbx, -, -,x2, -⟩:=HXC.out k hlt
     obtain ⟨bx',ox',ex, -, -, -, -,y3⟩:=HXC.out (k - 1) (by omega)
     cases ex
     have x2:=cell_keep x2 hb hbx
     have y3:=cell_keep y3 hb hbx
     generalize xs[k].start=s1 at*
     generalize xs[k - 1].stop=s2 at*
     have q1:¬(s1 < s2):=by omega
     have qk:((k:Int) - 1)=((k - 1:Nat):Int):=by omega
     clear HOR HXC HAT HAE HFE HFI HLE HCE HEA hb
     go_wp2
     go_quiet (fail)
     go_wp2
     go_roundw
     case rel=> exact ⟨k+1,by omega,by omega,by go_num,below_drewN HB.out.1 _⟩
     case measure=> simp [intOf];omega
    ·clear HXC HOR HAT HLE
     have hb':=HB.out.2
     go_wp2_with fail
     refine (HEA.out b.length _ hb').mono ?_
     rintro e w5 ⟨rfl,bel⟩
     rw [HAE.out]
     have HB:=Lib.hid (below_step bel hb')
     obtain ⟨y0,y1,y2,y3⟩:=HCE.out 0 h0 w5 HB.out
     simp only [Nat.zero_mul,Nat.add_zero] at y0 y1 y2 y3
     clear bel hb'
     go_wp2_with fail
     refine (HFE.out _ HB.out).mono ?_
     rintro e w6 ⟨rfl,bel⟩
     have HB:=Lib.hid (below_step bel HB.out)
     clear bel
     go_wp2_with fail
     refine (HFI.out _ HB.out).mono ?_
     rintro e w7 ⟨rfl,bel⟩
     have HB:=Lib.hid (below_step bel HB.out)
     clear bel
     go_wp2
     go_ret
     exact ⟨rfl,below_step HB.out HB1.out⟩
end Go.Proofs.YteldgdelmaeokaaDoor.FnLeaves
