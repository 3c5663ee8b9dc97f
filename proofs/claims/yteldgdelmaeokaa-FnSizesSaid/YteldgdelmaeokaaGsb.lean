/- Out of IntRow, DescMin, DescMax, TabS: the walks and plain laws that the claim needs. No condition but those that each theorem names. -/
import Derived.Test.YteldgdelmaeokaaGb
import Derived.Test.YteldgdelmaeokaaGa
import Derived.Test.YteldgdelmaeokaaGsa
import Derived.Test.YteldgdelmaeokaaGf
import Derived.WalkSpells
import Derived.WalkLawsBesides
import Derived.Test.YteldgdelmaeokaaGh
import Derived.Laws.Tables
import Derived.BigQuiet
import Derived.Deep.QuietTactic
set_option linter.unusedSimpArgs false
set_option linter.unusedVariables false
namespace Go.Proofs.Yteldgdelmaeokaa
open Go.RowKit
theorem SlI.all {w:World} {B:Nat} {v:Value} {l:List Int} (h:SlI w B v l) (h0:0 < l.length):
  ∃b off c,v= .slice (some ⟨b,off,none⟩) l.length c∧l.length≤c∧c≤maxLen∧b < B∧∀j (hj:j < l.length),w.cell? ⟨b,off+j,none⟩=some (.int .i64 l[j]):=by
 obtain ⟨_,A,c,rfl,hc,hm,hr⟩:=h
 obtain ⟨b,off,rfl,hb,hcell⟩:=hr h0
 exact ⟨b,off,c,rfl,hc,hm,hb,fun j hj=> hcell j _ (by rw [List.getElem?_map,List.getElem?_eq_getElem hj];rfl)⟩
end Go.Proofs.Yteldgdelmaeokaa
namespace Go.Proofs.Yteldgdelmaeokaa
open Go.RowKit
end Go.Proofs.Yteldgdelmaeokaa
namespace Go.Proofs.Yteldgdelmaeokaa
open Go.RowKit
end Go.Proofs.Yteldgdelmaeokaa
namespace Go.Proofs.Yteldgdelmaeokaa
open Go.RowKit
def tabL (o:List Int):List Value:=o.map (.int .i64)++List.replicate (24 - o.length) (.int .i64 0)
theorem tabL_length {o:List Int} (h:o.length≤24):(tabL o).length=24:=by unfold tabL;simp;omega
def Tab (W:World) (T:Nat) (o:List Int):Prop:=W.heap[T]?=some (.cells (tabL o).toArray 47 (0,0))
theorem Tab.lt {W:World} {T:Nat} {o:List Int} (h:Tab W T o):T < W.heap.size:=(Array.getElem?_eq_some_iff.1 h).1
theorem Tab.keep {B:Nat} {W W':World} {T:Nat} {o:List Int} (h:Tab W T o) (hb:Below B W W') (hT:T < B):Tab W' T o:=(hb.block T hT).trans h
theorem Tab.later {W W':World} {T:Nat} {o:List Int} (h:Tab W T o) (hb:Below W.heap.size W W'):Tab W' T o:=h.keep hb h.lt
theorem Tab.cell {W:World} {T:Nat} {o:List Int} (h:Tab W T o) (j:Nat) (hj:j < o.length):W.cell? ⟨T,j,none⟩=some (.int .i64 o[j]):=by
 rw [cell_of_row W T j _ _ _ h,List.getElem?_toArray,tabL,List.getElem?_append_left (by simpa using hj)]
 simp [hj]
theorem Tab.zero {W:World} {T:Nat} {o:List Int} (h:Tab W T o) (hj:o.length < 24):W.cell? ⟨T,o.length,none⟩=some (.int .i64 0):=by
 rw [cell_of_row W T _ _ _ _ h,List.getElem?_toArray,tabL,List.getElem?_append_right (by simp),List.length_map,Nat.sub_self,List.getElem?_replicate,if_pos (by omega)]
theorem Tab.free {W:World} {T:Nat} {o:List Int} (h:Tab W T o) (j:Nat):W.frozen? ⟨T,j,none⟩=false:=frozen_of_row W T j _ _ h
theorem Tab.set {W:World} {T:Nat} {o:List Int} (h:Tab W T o) (hl:o.length < 24) (x:Int):Tab (W.setCell ⟨T,o.length,none⟩ (.int .i64 x)) T (o++ [x]):=by
 unfold Tab
 rw [heap_setCell_same W T _ _ _ _ h]
 congr 2
 apply Array.ext'
 simp only [Array.toList_setIfInBounds,tabL,List.map_append,List.map_cons,List.map_nil,List.length_append,List.length_cons,List.length_nil]
 rw [List.set_append_right _ _ (by simp)]
 simp only [List.length_map,Nat.sub_self]
 rw [show 24 - o.length=(24 - (o.length+1))+1 by omega,List.replicate_succ,List.set_cons_zero]
 simp
set_option maxHeartbeats 2000000 in
set_option maxRecDepth 100000 in
theorem tabSum_any (T:Nat) (o:List Int) (r:RM) (B:Nat) (w:World) (h:r.rd w B) (hB:B≤w.heap.size) (hT:Tab w T o) (ho:o.length≤24) (hk:∀x∈r.d.kids,0≤x∧x < o.length) (hl:r.d.kids.length≤9) (hob:inM 401 o):
  Calls Try.prog 32 #[.pointer (some ⟨T,0,none⟩),rmV r] w fun e w'=> e= .returned (.int .i64 (sumTo o r.d.kids r.d.kids.length))∧Below w.heap.size w w':=by
 obtain ⟨⟨name,kind,size,little,bytes,names,tags,kids⟩,vb,vn,vt,vk⟩:=r
 have h1:SlB w B vb bytes:=h.b
 have h2:SlS w B vn names:=h.n
 have h3:SlI w B vt tags:=h.t
 have h4:SlI w B vk kids:=h.k
 obtain ⟨Ab,cb,rfl, -⟩:=h1.open_
 obtain ⟨An,cn,rfl, -⟩:=h2.one
 obtain ⟨At,ct,rfl, -⟩:=h3.one
 obtain ⟨Ak,ck,rfl,hk1,hk2,x4⟩:=h4.one
 have hTl:=hT.lt
 have hTC:∀j (hj:j < o.length),w.cell? ⟨T,j,none⟩=some (.int .i64 o[j]):=fun j hj=> hT.cell j hj
 unfold rmV
 simp only at hk hl ⊢
 clear h h1 h2 h3 h4 hT
 have HX4:=Lib.hid x4
 have HTC:=Lib.hid hTC
 have HK:=Lib.hid hk
 have HOB:=Lib.hid hob
 have b0:=Below.allocW w (.cells #[.string name, .int .i64 kind, .int .i64 size, .bool little, .slice Ab bytes.length cb, .slice An names.length cn, .slice At tags.length ct, .slice Ak kids.length ck] 38) (Nat.le_refl _)
 unfold maxLen at hk2
 clear x4 hTC hk hob
 go_enter Try.func32,Try.ntmps32
 go_wp2_with fail
 go_loop [5,11] (fun q i=> ∃j:Nat,j≤kids.length∧i= .int .i64 j∧q= .int .i64 (sumTo o kids j)) (fun _ i=> kids.length - (intOf i).toNat)
 case atStart=> exact ⟨0,Nat.zero_le _,rfl,rfl⟩
 case round=>
  obtain ⟨j,hj,rfl,rfl⟩:=hrel
  have hsb:=sumTo_bd HOB.out (by omega) kids j
  by_cases hjl:j < kids.length
  ·obtain ⟨bk,ok,rfl,hbk,hcj⟩:=HX4.out j hjl
   have hxj:=HK.out _ (List.getElem_mem hjl)
   have hnx:kids.getD j 0=kids[j]:=by simp [List.getD,hjl]
   generalize kids[j]=yj at*
   obtain ⟨nj,rfl⟩:=Int.eq_ofNat_of_zero_le hxj.1
   have hnj:nj < o.length:=by omega
   have hoj:=HTC.out nj hnj
   have haj:at0 o ((nj:Nat):Int)=o[nj]:=at0_at o nj (by omega) hnj
   have hbj:=at0_bd HOB.out (by omega) ((nj:Nat):Int)
   rw [haj] at hbj
   have HN:=Lib.hid (show sumTo o kids (j+1)=sumTo o kids j+o[nj] by rw [sumTo,hnx,haj])
   generalize o[nj]=zj at*
   have fcj:=cell_later b0 hcj
   have foj:=cell_later b0 hoj
   have hn24:nj < 24:=by omega
   clear hcj hoj hnx haj hnj hxj
   go_wp2
   go_round
   case rel=> exact ⟨j+1,by omega,by go_num,by rw [HN.out]⟩
   case measure=> simp [intOf];omega
  ·have hjk:j=kids.length:=by omega
   subst hjk
   go_wp2
   go_ret
   exact ⟨rfl,b0⟩
set_option maxHeartbeats 4000000 in
set_option maxRecDepth 100000 in
theorem tabMin_any (T:Nat) (o:List Int) (r:RM) (B:Nat) (w:World) (h:r.rd w B) (hB:B≤w.heap.size) (hT:Tab w T o) (ho:o.length≤24) (hk:∀x∈r.d.kids,0≤x∧x < o.length) (hl:2≤r.d.kids.length∧r.d.kids.length≤9) (hob:inM 401 o):
  Calls Try.prog 33 #[.pointer (some ⟨T,0,none⟩),rmV r, .func (.func 18) #[] #[]] w fun e w'=> e= .returned (.int .i64 (minTo o r.d.kids (r.d.kids.length - 2)))∧Below w.heap.size w w':=by
 obtain ⟨⟨name,kind,size,little,bytes,names,tags,kids⟩,vb,vn,vt,vk⟩:=r
 have h1:SlB w B vb bytes:=h.b
 have h2:SlS w B vn names:=h.n
 have h3:SlI w B vt tags:=h.t
 have h4:SlI w B vk kids:=h.k
 simp only at hk hl
 obtain ⟨Ab,cb,rfl, -⟩:=h1.open_
 obtain ⟨An,cn,rfl, -⟩:=h2.one
 obtain ⟨At,ct,rfl, -⟩:=h3.one
 obtain ⟨bk,ok,ck,rfl,hk1,hk2,hbk,x4⟩:=h4.all (by omega)
 have hTl:=hT.lt
 have hTC:∀j (hj:j < o.length),w.cell? ⟨T,j,none⟩=some (.int .i64 o[j]):=fun j hj=> hT.cell j hj
 unfold rmV
 simp only
 have hcut:=run_cutL (P:=Try.prog) Try.underlying36 Try.sizeOf3 (some ⟨bk,ok,none⟩) kids.length ck 2 2 rfl hl.1
 have hsl:=Sl.cutA (h4) 2 kids.length ck hl.1 (Nat.le_refl _) hk1 hk2 (by decide)
 rw [Nat.mul_one,Nat.mul_one] at hsl
 have hcA:cutA (some ⟨bk,ok,none⟩) ck 2 1=if ck=2 then some ⟨bk,ok,none⟩ else some ⟨bk,ok+2,none⟩:=by unfold cutA;split <;> simp [Addr.add]
 obtain ⟨bx,ox,hcx,hcy⟩:∃bx ox,cutA (some ⟨bk,ok,none⟩) ck 2 1=some ⟨bx,ox,none⟩∧(2 < kids.length→bx=bk∧ox=ok+2):=by
  rw [hcA]
  by_cases e:ck=2
  ·rw [if_pos e];exact ⟨_,_,rfl,fun _=> by omega⟩
  ·rw [if_neg e];exact ⟨_,_,rfl,fun _=> ⟨rfl,rfl⟩⟩
 rw [hcx] at hcut
 have HCUT:=Lib.hid hcut
 clear h h1 h2 h3 h4 hT hcut hsl hcA hcx
 have HX4:=Lib.hid x4
 have HTC:=Lib.hid hTC
 have HK:=Lib.hid hk
 have HOB:=Lib.hid hob
 have hj1:1 < kids.length:=by omega
 have hx1:=hk _ (List.getElem_mem hj1)
 have hc1:=x4 1 hj1
 have hd1:kids.getD 1 0=kids[1]:=by simp [List.getD,hj1]
 generalize kids[1]=y1 at*
 obtain ⟨n1,rfl⟩:=Int.eq_ofNat_of_zero_le hx1.1
 have hn1:n1 < o.length:=by omega
 have ho1:=hTC n1 hn1
 have ha1:at0 o ((n1:Nat):Int)=o[n1]:=at0_at o n1 (by omega) hn1
 have HZ:=Lib.hid (show minTo o kids 0=o[n1] by rw [minTo,hd1,ha1])
 generalize o[n1]=z1 at*
 have b0:=Below.allocW w (.cells #[.string name, .int .i64 kind, .int .i64 size, .bool little, .slice Ab bytes.length cb, .slice An names.length cn, .slice At tags.length ct, .slice (some ⟨bk,ok,none⟩) kids.length ck] 38) (Nat.le_refl _)
 have fc1:=cell_later b0 hc1
 have fo1:=cell_later b0 ho1
 have f7:(w.alloc (.cells #[.string name, .int .i64 kind, .int .i64 size, .bool little, .slice Ab bytes.length cb, .slice An names.length cn, .slice At tags.length ct, .slice (some ⟨bk,ok,none⟩) kids.length ck] 38)).cell? ⟨w.heap.size,7,none⟩=some (.slice (some ⟨bk,ok,none⟩) kids.length ck):=by simp [go_sem]
 unfold maxLen at hk2
 have hn24:n1 < 24:=by omega
 have hz1:(1:Int) < kids.length:=by omega
 have hcut:=HCUT.out
 have hzW:(w.alloc (.cells #[.string name, .int .i64 kind, .int .i64 size, .bool little, .slice Ab bytes.length cb, .slice An names.length cn, .slice At tags.length ct, .slice (some ⟨bk,ok,none⟩) kids.length ck] 38)).heap.size=w.heap.size+1:=by simp
 clear x4 hTC hk hob ho1 ha1 hd1 hc1 hn1 hx1
 go_enter Try.func33,Try.ntmps33
 go_wp2_with fail
 generalize (w.alloc (.cells #[.string name, .int .i64 kind, .int .i64 size, .bool little, .slice Ab bytes.length cb, .slice An names.length cn, .slice At tags.length ct, .slice (some ⟨bk,ok,none⟩) kids.length ck] 38))=W1 at*
 go_quiet (fail)
 go_wp2_with fail
 clear hcut
 go_loopw [7,22] (fun q i wr=> ∃j:Nat,j+2≤kids.length∧i= .int .i64 j∧q= .int .i64 (minTo o kids j)∧Below W1.heap.size W1 wr) (fun _ i _=> kids.length - (intOf i).toNat)
 case atStart=> exact ⟨0,by omega,rfl,by rw [HZ.out],below_drewN (Below.refl _ _) _⟩
 case round=>
  obtain ⟨j,hj,rfl,rfl,hb⟩:=hrel
  have hsb:=minTo_bd HOB.out (by omega) kids j
  have hbw:=b0.trans (hb.mono (by omega))
  have hzr:=hb.size
  by_cases hjl:j+2 < kids.length
  ·obtain ⟨rfl,rfl⟩:=hcy (by omega)
   have hcj:=HX4.out (j+2) hjl
   have hxj:=HK.out _ (List.getElem_mem hjl)
   have hnx:kids.getD (j+2) 0=kids[j+2]:=by simp [List.getD,hjl]
   generalize kids[j+2]=yj at*
   obtain ⟨nj,rfl⟩:=Int.eq_ofNat_of_zero_le hxj.1
   have hnj:nj < o.length:=by omega
   have hoj:=HTC.out nj hnj
   have haj:at0 o ((nj:Nat):Int)=o[nj]:=at0_at o nj (by omega) hnj
   have hbj:=at0_bd HOB.out (by omega) ((nj:Nat):Int)
   rw [haj] at hbj
   have HN:=Lib.hid (show minTo o kids (j+1)=min (minTo o kids j) o[nj] by rw [minTo,hnx,haj])
   generalize o[nj]=zj at*
   have fcj:=cell_at hbw (show bx < w.heap.size by omega) hcj
   rw [show ok+(j+2)=ok+2+j by omega] at fcj
   have foj:=cell_at hbw hTl hoj
   have hn24:nj < 24:=by omega
   have hjk:j < kids.length - 2:=by omega
   have HB:=Lib.hid hb
   clear hcj hoj hnx haj hnj hxj hb hbw fc1 fo1 f7
   go_wp2_with (go_at_call 18;refine (iMin_any _ _ _).mono ?_;rintro e w2 ⟨rfl,bel⟩)
   have HB2:=Lib.hid (HB.out.trans (bel.mono hzr))
   clear bel
   go_roundw
   case rel=> exact ⟨j+1,by omega,by go_num,by rw [HN.out],HB2.out⟩
   case measure=> simp [intOf];omega
  ·have hjk:kids.length - 2=j:=by omega
   rw [hjk]
   have hjd:decide (j < kids.length - 2)=false:=decide_eq_false (by omega)
   have HB:=Lib.hid hbw
   have HJ:=Lib.hid hjk
   clear hjk hb hbw hcy fc1 fo1 f7
   go_wp2
   go_ret
   exact ⟨ret_int (by rw [HJ.out]),HB.out⟩
set_option maxHeartbeats 4000000 in
set_option maxRecDepth 100000 in
theorem tabMax_any (T:Nat) (o:List Int) (r:RM) (B:Nat) (w:World) (h:r.rd w B) (hB:B≤w.heap.size) (hT:Tab w T o) (ho:o.length≤24) (hk:∀x∈r.d.kids,0≤x∧x < o.length) (hl:2≤r.d.kids.length∧r.d.kids.length≤9) (hob:inM 401 o):
  Calls Try.prog 33 #[.pointer (some ⟨T,0,none⟩),rmV r, .func (.func 20) #[] #[]] w fun e w'=> e= .returned (.int .i64 (maxTo o r.d.kids (r.d.kids.length - 2)))∧Below w.heap.size w w':=by
 obtain ⟨⟨name,kind,size,little,bytes,names,tags,kids⟩,vb,vn,vt,vk⟩:=r
 have h1:SlB w B vb bytes:=h.b
 have h2:SlS w B vn names:=h.n
 have h3:SlI w B vt tags:=h.t
 have h4:SlI w B vk kids:=h.k
 simp only at hk hl
 obtain ⟨Ab,cb,rfl, -⟩:=h1.open_
 obtain ⟨An,cn,rfl, -⟩:=h2.one
 obtain ⟨At,ct,rfl, -⟩:=h3.one
 obtain ⟨bk,ok,ck,rfl,hk1,hk2,hbk,x4⟩:=h4.all (by omega)
 have hTl:=hT.lt
 have hTC:∀j (hj:j < o.length),w.cell? ⟨T,j,none⟩=some (.int .i64 o[j]):=fun j hj=> hT.cell j hj
 unfold rmV
 simp only
 have hcut:=run_cutL (P:=Try.prog) Try.underlying36 Try.sizeOf3 (some ⟨bk,ok,none⟩) kids.length ck 2 2 rfl hl.1
 have hsl:=Sl.cutA (h4) 2 kids.length ck hl.1 (Nat.le_refl _) hk1 hk2 (by decide)
 rw [Nat.mul_one,Nat.mul_one] at hsl
 have hcA:cutA (some ⟨bk,ok,none⟩) ck 2 1=if ck=2 then some ⟨bk,ok,none⟩ else some ⟨bk,ok+2,none⟩:=by unfold cutA;split <;> simp [Addr.add]
 obtain ⟨bx,ox,hcx,hcy⟩:∃bx ox,cutA (some ⟨bk,ok,none⟩) ck 2 1=some ⟨bx,ox,none⟩∧(2 < kids.length→bx=bk∧ox=ok+2):=by
  rw [hcA]
  by_cases e:ck=2
  ·rw [if_pos e];exact ⟨_,_,rfl,fun _=> by omega⟩
  ·rw [if_neg e];exact ⟨_,_,rfl,fun _=> ⟨rfl,rfl⟩⟩
 rw [hcx] at hcut
 have HCUT:=Lib.hid hcut
 clear h h1 h2 h3 h4 hT hcut hsl hcA hcx
 have HX4:=Lib.hid x4
 have HTC:=Lib.hid hTC
 have HK:=Lib.hid hk
 have HOB:=Lib.hid hob
 have hj1:1 < kids.length:=by omega
 have hx1:=hk _ (List.getElem_mem hj1)
 have hc1:=x4 1 hj1
 have hd1:kids.getD 1 0=kids[1]:=by simp [List.getD,hj1]
 generalize kids[1]=y1 at*
 obtain ⟨n1,rfl⟩:=Int.eq_ofNat_of_zero_le hx1.1
 have hn1:n1 < o.length:=by omega
 have ho1:=hTC n1 hn1
 have ha1:at0 o ((n1:Nat):Int)=o[n1]:=at0_at o n1 (by omega) hn1
 have HZ:=Lib.hid (show maxTo o kids 0=o[n1] by rw [maxTo,hd1,ha1])
 generalize o[n1]=z1 at*
 have b0:=Below.allocW w (.cells #[.string name, .int .i64 kind, .int .i64 size, .bool little, .slice Ab bytes.length cb, .slice An names.length cn, .slice At tags.length ct, .slice (some ⟨bk,ok,none⟩) kids.length ck] 38) (Nat.le_refl _)
 have fc1:=cell_later b0 hc1
 have fo1:=cell_later b0 ho1
 have f7:(w.alloc (.cells #[.string name, .int .i64 kind, .int .i64 size, .bool little, .slice Ab bytes.length cb, .slice An names.length cn, .slice At tags.length ct, .slice (some ⟨bk,ok,none⟩) kids.length ck] 38)).cell? ⟨w.heap.size,7,none⟩=some (.slice (some ⟨bk,ok,none⟩) kids.length ck):=by simp [go_sem]
 unfold maxLen at hk2
 have hn24:n1 < 24:=by omega
 have hz1:(1:Int) < kids.length:=by omega
 have hcut:=HCUT.out
 have hzW:(w.alloc (.cells #[.string name, .int .i64 kind, .int .i64 size, .bool little, .slice Ab bytes.length cb, .slice An names.length cn, .slice At tags.length ct, .slice (some ⟨bk,ok,none⟩) kids.length ck] 38)).heap.size=w.heap.size+1:=by simp
 clear x4 hTC hk hob ho1 ha1 hd1 hc1 hn1 hx1
 go_enter Try.func33,Try.ntmps33
 go_wp2_with fail
 generalize (w.alloc (.cells #[.string name, .int .i64 kind, .int .i64 size, .bool little, .slice Ab bytes.length cb, .slice An names.length cn, .slice At tags.length ct, .slice (some ⟨bk,ok,none⟩) kids.length ck] 38))=W1 at*
 go_quiet (fail)
 go_wp2_with fail
 clear hcut
 go_loopw [7,22] (fun q i wr=> ∃j:Nat,j+2≤kids.length∧i= .int .i64 j∧q= .int .i64 (maxTo o kids j)∧Below W1.heap.size W1 wr) (fun _ i _=> kids.length - (intOf i).toNat)
 case atStart=> exact ⟨0,by omega,rfl,by rw [HZ.out],below_drewN (Below.refl _ _) _⟩
 case round=>
  obtain ⟨j,hj,rfl,rfl,hb⟩:=hrel
  have hsb:=maxTo_bd HOB.out (by omega) kids j
  have hbw:=b0.trans (hb.mono (by omega))
  have hzr:=hb.size
  by_cases hjl:j+2 < kids.length
  ·obtain ⟨rfl,rfl⟩:=hcy (by omega)
   have hcj:=HX4.out (j+2) hjl
   have hxj:=HK.out _ (List.getElem_mem hjl)
   have hnx:kids.getD (j+2) 0=kids[j+2]:=by simp [List.getD,hjl]
   generalize kids[j+2]=yj at*
   obtain ⟨nj,rfl⟩:=Int.eq_ofNat_of_zero_le hxj.1
   have hnj:nj < o.length:=by omega
   have hoj:=HTC.out nj hnj
   have haj:at0 o ((nj:Nat):Int)=o[nj]:=at0_at o nj (by omega) hnj
   have hbj:=at0_bd HOB.out (by omega) ((nj:Nat):Int)
   rw [haj] at hbj
   have HN:=Lib.hid (show maxTo o kids (j+1)=max (maxTo o kids j) o[nj] by rw [maxTo,hnx,haj])
   generalize o[nj]=zj at*
   have fcj:=cell_at hbw (show bx < w.heap.size by omega) hcj
   rw [show ok+(j+2)=ok+2+j by omega] at fcj
   have foj:=cell_at hbw hTl hoj
   have hn24:nj < 24:=by omega
   have hjk:j < kids.length - 2:=by omega
   have HB:=Lib.hid hb
   clear hcj hoj hnx haj hnj hxj hb hbw fc1 fo1 f7
   go_wp2_with (go_at_call 20;refine (iMax_any _ _ _).mono ?_;rintro e w2 ⟨rfl,bel⟩)
   have HB2:=Lib.hid (HB.out.trans (bel.mono hzr))
   clear bel
   go_roundw
   case rel=> exact ⟨j+1,by omega,by go_num,by rw [HN.out],HB2.out⟩
   case measure=> simp [intOf];omega
  ·have hjk:kids.length - 2=j:=by omega
   rw [hjk]
   have hjd:decide (j < kids.length - 2)=false:=decide_eq_false (by omega)
   have HB:=Lib.hid hbw
   have HJ:=Lib.hid hjk
   clear hjk hb hbw hcy fc1 fo1 f7
   go_wp2
   go_ret
   exact ⟨ret_int (by rw [HJ.out]),HB.out⟩
end Go.Proofs.Yteldgdelmaeokaa
