/- Out of Cur, Cur1, CurW, DrawP, DrD, DrW, DrC, DrI, MkS, RgX: the walks and plain laws that the claim needs. No condition but those that each theorem names. -/
import Derived.Test.YteldgdelmaeokaaGreatDoorGa
import Derived.Test.YteldgdelmaeokaaGreatDoorGb
import Derived.WalkSpells
import Derived.WalkLawsBesides
import Derived.BigQuiet
import Derived.Deep.QuietTactic
import Derived.Deep.RegionHeld3
import Derived.RangeFuncBox
import Derived.Test.YteldgdelmaeokaaGreatDoorGl
import Derived.Test.YteldgdelmaeokaaGreatDoorGf
set_option linter.unusedSimpArgs false
set_option linter.unusedVariables false
set_option maxHeartbeats 1000000
set_option maxRecDepth 100000
namespace Go.Proofs.YteldgdelmaeokaaGreatDoor
open Go.Proofs.Tryz Go.RowKit
def Vb (w:World) (b:Nat) (v:Value) (n:Nat):Prop:=
 w.cell? ⟨b,0,none⟩=some v∧(∃i:Nat,i≤n∧w.cell? ⟨b,1,none⟩=some (.int .i64 i))∧(∃h:Int,w.cell? ⟨b,2,none⟩=some (.int .i64 h))∧w.frozen? ⟨b,1,none⟩=false∧w.frozen? ⟨b,2,none⟩=false
def Xo (b:Nat) (w w':World):Prop:=w.grownBy w' (some b)∧w'.heap.size=w.heap.size
theorem Ms {w:World} {b o b' o':Nat} {u:Value} (h:¬(b=b'∧o=o')):(w.setCell ⟨b,o,none⟩ u).cell? ⟨b',o',none⟩=w.cell? ⟨b',o',none⟩:=
 World.cell?_setCell_other _ _ _ _ (fun e=> h (by injection e with h1 h2;exact ⟨h1,h2⟩))
theorem Vb.set2 {w:World} {b n:Nat} {v:Value} {X:Int} (h:Vb w b v n):Vb (w.setCell ⟨b,2,none⟩ (.int .i64 X)) b v n:=by
 obtain ⟨c0,⟨i,hi,c1⟩,⟨hh,c2⟩,f1,f2⟩:=h
 exact ⟨(Ms (by omega)).trans c0,⟨i,hi,(Ms (by omega)).trans c1⟩,⟨X,World.cell?_setCell_same _ _ _ c2⟩,(World.frozen?_setCell _ _ _ _).trans f1,(World.frozen?_setCell _ _ _ _).trans f2⟩
theorem Vb.set1 {w:World} {b n:Nat} {v:Value} {j:Nat} (h:Vb w b v n) (hj:j≤n):Vb (w.setCell ⟨b,1,none⟩ (.int .i64 j)) b v n:=by
 obtain ⟨c0,⟨i,hi,c1⟩,⟨hh,c2⟩,f1,f2⟩:=h
 exact ⟨(Ms (by omega)).trans c0,⟨j,hj,World.cell?_setCell_same _ _ _ c1⟩,⟨hh,(Ms (by omega)).trans c2⟩,(World.frozen?_setCell _ _ _ _).trans f1,(World.frozen?_setCell _ _ _ _).trans f2⟩
theorem Vb.drewN {w:World} {b n:Nat} {v:Value} (h:Vb w b v n) (k:Nat):Vb (w.drewN k) b v n:=h
theorem Xo.refl (b:Nat) (w:World):Xo b w w:=⟨World.grownBy.refl _ _,rfl⟩
theorem Xo.set {b o:Nat} {w w':World} {u:Value} (h:Xo b w w'):Xo b w (w'.setCell ⟨b,o,none⟩ u):=
 ⟨Ur h.1 (Jj w' b o u),by rw [←h.2];simp [World.setCell]⟩
theorem Xo.drewN {b:Nat} {w w':World} (h:Xo b w w') (k:Nat):Xo b w (w'.drewN k):=⟨⟨h.1.os,h.1.tape,h.1.output,h.1.size,h.1.block⟩,h.2⟩
theorem Xo.trans {b:Nat} {a w w':World} (h:Xo b a w) (k:Xo b w w'):Xo b a w':=⟨Ur h.1 k.1,k.2.trans h.2⟩
theorem and_255 (E:Int):0≤bits .and .i64 E 255∧bits .and .i64 E 255≤255:=by
 have h2:(BitVec.ofInt 64 (255:Int)).toNat=255:=by decide
 have hx:(BitVec.ofInt 64 E &&& BitVec.ofInt 64 255).toNat≤255:=by rw [BitVec.toNat_and,h2];exact Nat.and_le_right
 show 0≤IntKind.i64.wrap ((BitVec.ofInt 64 E &&& BitVec.ofInt 64 255).toNat:Int)∧IntKind.i64.wrap ((BitVec.ofInt 64 E &&& BitVec.ofInt 64 255).toNat:Int)≤255
 rw [IntWalk.i64_in _ (by omega)];omega
theorem Tw (b B:Nat) (v:Value) (l:List UInt8) (w:World) (h:Xu w B v l) (hB:B≤b) (hc:Vb w b v l.length):
  Calls prog 56 #[.pointer (some ⟨b,0,none⟩)] w fun e w'=> (∃x:Int,e= .returned (.int .i64 x)∧0≤x∧x≤255)∧Xo b w w'∧Vb w' b v l.length:=by
 obtain ⟨A,c,rfl,hc1,hcm,hcell⟩:=h.open_
 unfold maxLen at hcm
 have HC:=Fs hc
 obtain ⟨c0,⟨i,hi,c1⟩,⟨hh,c2⟩,f1,f2⟩:=hc
 go_enter func56,ntmps56
 go_wp2
 generalize wrap64 (wrap64 (hh*6364136223846793005)+1442695040888963407)=X
 have g2:(w.setCell ⟨b,2,none⟩ (.int .i64 X)).cell? ⟨b,2,none⟩=some (.int .i64 X):=by simp [go_sem,c2]
 have g1:(w.setCell ⟨b,2,none⟩ (.int .i64 X)).cell? ⟨b,1,none⟩=some (.int .i64 i):=by simp [go_sem,c1]
 have g0:(w.setCell ⟨b,2,none⟩ (.int .i64 X)).cell? ⟨b,0,none⟩=some (.slice A l.length c):=by simp [go_sem,c0]
 go_quiet (fail)
 by_cases hlt:i < l.length
 ·obtain ⟨bb,off,rfl,hbb,hc3⟩:=hcell i hlt
  have g3:(w.setCell ⟨b,2,none⟩ (.int .i64 X)).cell? ⟨bb,off+i,none⟩=some (.int .u8 l[i].toNat):=by
   rw [←hc3];exact Ms (by omega)
  clear hcell
  go_wp2
  go_quiet (fail)
  go_wp2
  go_quiet (fail)
  go_wp2
  go_ret
  exact ⟨⟨_,rfl,and_255 _⟩, .set (.drewN (.set (.refl _ _)) _),Vb.set1 (.drewN HC.out.set2 _) (j:=i+1) (by omega)⟩
 ·clear hcell
  go_wp2
  go_quiet (fail)
  go_wp2
  go_ret
  exact ⟨⟨_,rfl,and_255 _⟩, .drewN (.drewN (.set (.refl _ _)) _) _, .drewN (.drewN HC.out.set2 _) _⟩
theorem Xu.step {b B:Nat} {v:Value} {l:List UInt8} {w w':World} (h:Xu w B v l) (hs:Xo b w w') (hB:B≤b) (hb:b < w.heap.size):Xu w' B v l:=
 Sl.below h ((Fv B w).grown hs.1 (by omega) (fun k e=> by injection e;omega))
theorem Vb.lt {w:World} {b n:Nat} {v:Value} (h:Vb w b v n):b < w.heap.size:=World.block_lt_of_cell? w ⟨b,0,none⟩ h.1
def Drawn (b:Nat) (v:Value) (n:Nat) (w:World) (lo hi:Int) (e:Ending) (w':World):Prop:=(∃x:Int,e= .returned (.int .i64 x)∧lo≤x∧x≤hi)∧Xo b w w'∧Vb w' b v n
theorem l1Below_any (b B:Nat) (v:Value) (l:List UInt8) (m:Int) (w:World) (h:Xu w B v l) (hB:B≤b) (hc:Vb w b v l.length) (hm:0 < m) (hm2:m≤16777216):
  Calls prog 23 #[.pointer (some ⟨b,0,none⟩), .int .i64 m] w (Drawn b v l.length w 0 (m - 1)):=by
 have H:=Fs h
 have HC:=Fs hc
 have hlt:=hc.lt
 clear h hc
 have hz:(m==0)=false:=by rw [beq_eq_false_iff_ne];omega
 by_cases h2:m≤256
 ·go_enter func23,ntmps23
  go_wp2_with (go_at_call 56;refine (Tw b B v l _ H.out hB HC.out).mono ?_;rintro e w1 ⟨⟨x,rfl,hx0,hx1⟩,hs,hcu⟩;have hmod:=Fs (Int.tmod_eq_emod_of_nonneg (b:=m) hx0);have HB1:=Fs (Int.emod_nonneg x (show m≠0 by omega));have HB2:=Fs (Int.emod_lt_of_pos x hm))
  go_ret
  exact ⟨⟨_,rfl,by have:=hmod.out;have:=HB1.out;omega,by have:=hmod.out;have:=HB2.out;omega⟩,hs,hcu⟩
 ·go_enter func23,ntmps23
  go_wp2_with fail
  refine (Tw b B v l _ H.out hB HC.out).mono ?_
  rintro e w1 ⟨⟨x,rfl,hx0,hx1⟩,hs,hcu⟩
  have H1:=Fs (H.out.step hs hB hlt)
  have hcu:=Fs hcu
  have hs:=Fs hs
  go_wp2_with fail
  refine (Tw b B v l _ H1.out hB hcu.out).mono ?_
  rintro e w2 ⟨⟨y,rfl,hy0,hy1⟩,hs2,hcu2⟩
  have hs2:=Fs (hs.out.trans hs2)
  have H2:=Fs (H.out.step hs2.out hB hlt)
  have hcu2:=Fs hcu2
  go_wp2_with fail
  refine (Tw b B v l _ H2.out hB hcu2.out).mono ?_
  rintro e w3 ⟨⟨z,rfl,hz0,hz1⟩,hs3,hcu3⟩
  have hs3:=Fs (hs2.out.trans hs3)
  have hcu3:=Fs hcu3
  have hmod:=Fs (Int.tmod_eq_emod_of_nonneg (a:=x*65536+y*256+z) (b:=m) (by omega))
  have HB1:=Fs (Int.emod_nonneg (x*65536+y*256+z) (show m≠0 by omega))
  have HB2:=Fs (Int.emod_lt_of_pos (x*65536+y*256+z) hm)
  go_wp2
  go_ret
  exact ⟨⟨_,rfl,by have:=hmod.out;have:=HB1.out;omega,by have:=hmod.out;have:=HB2.out;omega⟩,hs3.out,hcu3.out⟩
theorem Gk (v:Value) (l:List UInt8) (B:Nat) (w:World) (h:Xu w B v l) (hl:l.length≤1048576):
  Calls prog 19 #[v] w fun e w'=> e= .returned (.pointer (some ⟨w.heap.size,0,none⟩))∧(∃x:Int,w'=w.alloc (.cells #[v, .int .i64 0, .int .i64 x] 72)):=by
 obtain ⟨A,c,rfl,hc1,hcm,hcell⟩:=h.open_
 unfold maxLen at hcm
 clear h
 go_enter func19,ntmps19
 go_wp2
 go_loop [3,4] (fun h i=> ∃k:Nat,k≤l.length∧k≤4000∧i= .int .i64 k∧∃x:Int,h= .int .i64 x) (fun _ i=> l.length - (intOf i).toNat)
 case atStart=> exact ⟨0,Eb _,Eb _,rfl,_,rfl⟩
 case round=>
  obtain ⟨k,hk,hk2,rfl,x,rfl⟩:=hrel
  by_cases hlt:k < l.length
  ·by_cases hlt2:k < 4000
   ·obtain ⟨bb,off,rfl,hbb,hc3⟩:=hcell k hlt
    clear hcell
    go_wp2
    go_round
    case rel=> exact ⟨k+1,by omega,by omega,by go_num,_,rfl⟩
    case measure=> simp [intOf];omega
   ·clear hcell
    go_wp2
    go_ret
    exact ⟨rfl,x,rfl⟩
  ·clear hcell
   go_wp2
   go_ret
   exact ⟨rfl,x,rfl⟩
theorem Vb.grown {w w':World} {b n:Nat} {v:Value} (h:Vb w b v n) (hb:Below (b+1) w w'):Vb w' b v n:=by
 obtain ⟨c0,⟨i,hi,c1⟩,⟨hh,c2⟩,f1,f2⟩:=h
 exact ⟨(hb.cell (p:=⟨b,0,none⟩) (Nat.lt_succ_self b)).trans c0,⟨i,hi,(hb.cell (p:=⟨b,1,none⟩) (Nat.lt_succ_self b)).trans c1⟩,⟨hh,(hb.cell (p:=⟨b,2,none⟩) (Nat.lt_succ_self b)).trans c2⟩,
  (hb.frozen (p:=⟨b,1,none⟩) (Nat.lt_succ_self b)).trans f1,(hb.frozen (p:=⟨b,2,none⟩) (Nat.lt_succ_self b)).trans f2⟩
theorem big_any (v:Value) (l:List UInt8) (B:Nat) (w:World) (h:Xu w B v l):
  Calls prog 5 #[v] w fun e w'=> e= .returned (.bool (decide (1048576 < (l.length:Int))))∧w=w':=by
 obtain ⟨A,c,rfl,hc,hm,hcell⟩:=h.open_
 unfold maxLen at hm
 clear h hcell
 go_enter func5,ntmps5
 go_wp2
 go_ret
 exact ⟨rfl,rfl⟩
theorem cur_new {w:World} {v:Value} {x:Int} {t:TypeId} {n:Nat}:Vb (w.alloc (.cells #[v, .int .i64 0, .int .i64 x] t)) w.heap.size v n:=
 ⟨by simp [go_sem],⟨0,Eb _,by simp [go_sem]⟩,⟨x,by simp [go_sem]⟩,by simp [go_sem],by simp [go_sem]⟩
structure Qo (b:Nat) (v:Value) (l:List UInt8) (w:World):Prop where
 sl:Xu w b v l
 at_:Vb w b v l.length
abbrev Qx (b:Nat) (w w':World):Prop:=w.grownBy w' (some b)
theorem Qo.lt {b:Nat} {v:Value} {l:List UInt8} {w:World} (h:Qo b v l w):b < w.heap.size:=h.at_.lt
theorem Qx.out {b:Nat} {w w':World} (h:Qx b w w'):Xq b (b+1) w w':=Xq.of_grown h (fun k e=> by cases e;omega)
theorem Qx.below {b B:Nat} {a w w':World} (h:Qx b w w') (hb:Below B a w) (hB:B≤w.heap.size) (hbB:B≤b):Below B a w':=hb.grown h hB (fun k e=> by cases e;exact hbB)
theorem Qx.of_below {b:Nat} {w w':World} (h:Below w.heap.size w w'):Qx b w w':=⟨h.os,h.tape,h.output,h.size,fun k hk _=> h.block k hk⟩
theorem Qx.trans {b:Nat} {a w w':World} (h:Qx b a w) (k:Qx b w w'):Qx b a w':=Ur h k
theorem Qo.step {b:Nat} {v:Value} {l:List UInt8} {w w':World} (h:Qo b v l w) (hs:Qx b w w') (hc:Vb w' b v l.length):Qo b v l w':=
 ⟨Sl.below h.sl ((Fv b w).grown hs (by have:=h.lt;omega) (fun k e=> by cases e;exact Fu _)),hc⟩
theorem Qo.below {b:Nat} {v:Value} {l:List UInt8} {w w':World} (h:Qo b v l w) (hb:Below w.heap.size w w'):Qo b v l w':=
 ⟨Sl.below h.sl (hb.mono (by have:=h.lt;omega)),h.at_.grown (hb.mono h.lt)⟩
theorem Qo.alloc {b:Nat} {v:Value} {l:List UInt8} {w:World} (h:Qo b v l w) (o:Obj):Qo b v l (w.alloc o):=h.below ((Fv _ _).alloc (Fu _) o)
theorem Qx.alloc {b:Nat} {a w:World} (h:Qx b a w) (o:Obj):Qx b a (w.alloc o):=h.trans (Qx.of_below ((Fv _ _).alloc (Fu _) o))
theorem Qn (b B:Nat) (v:Value) (l:List UInt8) (m:Int) (w:World) (h:Qo b v l w) (hm:0 < m) (hm2:m≤16777216):
  Calls prog 23 #[.pointer (some ⟨b,0,none⟩), .int .i64 m] w fun e w'=> (∃x:Int,e= .returned (.int .i64 x)∧0≤x∧x < m)∧Qx b w w'∧w'.heap.size=w.heap.size∧Qo b v l w':=by
 refine (l1Below_any b b v l m w h.sl (Fu _) h.at_ hm hm2).mono ?_
 rintro e w' ⟨⟨x,he,h0,h1⟩,hs,hc⟩
 exact ⟨⟨x,he,h0,by omega⟩,hs.1,hs.2,h.step hs.1 hc⟩
theorem Vn (b B:Nat) (v:Value) (l:List UInt8) (m:Int) (w:World) (h:Qo b v l w) (hm:0 < m) (hm2:m≤16777216):
  Calls prog 21 #[.pointer (some ⟨b,0,none⟩), .int .i64 m] w fun e w'=> (∃x:Bool,e= .returned (.bool x))∧Qx b w w'∧w'.heap.size=w.heap.size∧Qo b v l w':=by
 go_enter func21,ntmps21
 go_wp2_with fail
 refine (Qn b b v l m w h hm hm2).mono ?_
 rintro e w1 ⟨⟨x,rfl,_,_⟩,hs,hz,hc⟩
 have H:=Fs (Ft hs (Ft hz hc))
 clear hs hz hc h
 go_wp2
 go_ret
 exact ⟨⟨_,rfl⟩,H.out⟩
theorem Xy {w:World} (xs:List ByteArray) (cs:Array Value) (hcs:cs=(xs.map Value.string).toArray) (g n:Nat) (hg:g=w.heap.size) (hn:n=xs.length) (hx:xs.length≤maxLen):
  Gx xs g (g+1) (w.alloc (.cells cs 9)) (.slice (some ⟨g,0,none⟩) n n):=by
 subst hg hn hcs
 refine ⟨⟨by simp,_,_,rfl,Fu _,hx,fun _=> ⟨_,_,rfl,Nat.lt_succ_self _,fun j u hu=> ?_⟩⟩,fun ad n c e=> by cases e;exact Fu _,by simp⟩
 simp only [Nat.zero_add]
 have:=World.alloc_heap_new w (.cells (xs.map Value.string).toArray 9)
 simp only [World.cell?,this]
 rw [←hu]
 simp
theorem Yo (b lo hi:Nat) (v u:Value) (l:List UInt8) (xs:List ByteArray) (w:World) (h:Qo b v l w) (hu:Gx xs lo hi w u) (hlo:b < lo) (h1:1≤xs.length) (h2:xs.length≤256):
  Calls prog 69 #[.pointer (some ⟨b,0,none⟩),u] w fun e w'=> (∃x∈xs,e= .returned (.string x))∧Qx b w w'∧w'.heap.size=w.heap.size∧Qo b v l w':=by
 obtain ⟨A,c,rfl,hc,hm,hcell⟩:=(show Va w hi u xs from hu.1).one
 unfold maxLen at hm
 go_enter func69,ntmps69
 go_wp2_with fail
 refine (Qn b b v l xs.length w h (by omega) (by omega)).mono ?_
 rintro e w1 ⟨⟨x,rfl,hx0,hx1⟩,hs,hz,hcw⟩
 obtain ⟨k,rfl⟩:=Int.eq_ofNat_of_zero_le hx0
 have hk:k < xs.length:=by omega
 have hcell2:=(show Va w1 hi _ xs from (hu.keep hs.out (by omega)).1).one
 obtain ⟨A',c',e',_,_,hcell2⟩:=hcell2
 cases e'
 obtain ⟨bb,off,rfl,hbb,hd⟩:=hcell2 k hk
 have hmem:xs[k]∈xs:=Fw hk
 generalize xs[k]=y at*
 have H:=Fs (Ft hmem (Ft hs (Ft hz hcw)))
 clear hcell hcell2 hu h hs hz hcw hmem
 go_wp2
 go_ret
 exact ⟨⟨y,H.out.1,rfl⟩,H.out.2⟩
def dg (n:Nat):UInt8:=UInt8.ofNat (48+n)
theorem Yi (n:Nat) (h:n < 10):Ye n= [dg n]:=by
 by_cases h0:n=0
 ·subst h0;rfl
 ·unfold Ye
  rw [if_neg (by omega),if_neg (by omega),Int.natAbs_natCast,Vg h0,Nat.div_eq_of_lt h,Yv,Nat.mod_eq_of_lt h]
  rfl
theorem Im {s:ByteArray}:∀{n:Nat},(∀k,k < n→Tu s k=true)→Vz s n=true
 |0,_=> rfl
 |n+1,h=> by rw [Vz,Im (fun k hk=> h k (by omega)),h n (by omega)];rfl
structure Ob (s:ByteArray) (n:Nat):Prop where
 nm:Jc s=true
 last:s.data.toList.getLast?=some (dg n)
 size:s.size≤5
theorem Pe {x:ByteArray} {n:Nat} (hl:∀c∈x.data.toList,Vf c=true) (h1:1≤x.size) (h2:x.size≤4) (hn:n < 10):Ob (x++Tg (Ye n)) n:=by
 rw [Yi n hn]
 have hd:(x++Tg [dg n]).data.toList=x.data.toList++ [dg n]:=by rw [ByteArray.data_append];simp [Tg]
 have hs:(x++Tg [dg n]).size=x.size+1:=by rw [ByteArray.size_append];rfl
 have hs1:(Tg [dg n]).size=1:=rfl
 have hx:x.size=x.data.toList.length:=Lib.size_eq x
 refine ⟨?_,by rw [hd];simp,by omega⟩
 unfold Jc
 rw [Bool.and_eq_true,Bool.and_eq_true]
 refine ⟨Im fun k hk=> ?_,by simp;omega,by simp;omega⟩
 unfold Tu
 rw [hd]
 by_cases hk2:k < x.data.toList.length
 ·rw [List.getElem?_append_left hk2,List.getElem?_eq_getElem hk2]
  simp only [hl _ (List.getElem_mem hk2),Bool.true_or]
 ·have e:k=x.data.toList.length:=by omega
  subst e
  rw [List.getElem?_append_right (Fu _),Nat.sub_self]
  have h3:Ym (dg n)=true:=by
   rw [Pv]
   unfold dg
   have:(UInt8.ofNat (48+n)).toNat=48+n:=by simp;omega
   omega
  have h4:decide (x.data.toList.length≠0)=true:=Fy (by omega)
  show (Vf (dg n)||(Ym (dg n) && decide (x.data.toList.length≠0)))=true
  rw [h3,h4]
  simp
theorem dg_inj {n m:Nat} (hn:n < 10) (hm:m < 10) (h:dg n=dg m):n=m:=by
 have:=congrArg UInt8.toNat h
 unfold dg at this
 simp at this
 omega
theorem Ob.ne {s t:ByteArray} {n m:Nat} (h:Ob s n) (h':Ob t m) (hn:n < 10) (hm:m < 10) (hne:n≠m):(s.toList==t.toList)=false:=by
 rw [Lib.toList_data,Lib.toList_data,beq_eq_false_iff_ne]
 intro e
 have h1:=h.last
 rw [e,h'.last] at h1
 exact hne (dg_inj hm hn (Fz h1)).symm
def Tx:List ByteArray:= [⟨#[97]⟩,⟨#[105,116,101,109]⟩,⟨#[98]⟩,⟨#[104,101,97,100]⟩,⟨#[120]⟩]
def xsPq:List ByteArray:= [⟨#[112]⟩,⟨#[113]⟩,⟨#[114]⟩]
theorem Qp:∀x∈Tx,(∀c∈x.data.toList,Vf c=true)∧1≤x.size∧x.size≤4:=by
 have:(Tx.all fun x=> x.data.toList.all Vf && (decide (1≤x.size) && decide (x.size≤4)))=true:=by rfl
 intro x hx
 have:=List.all_eq_true.1 this x hx
 simp only [Bool.and_eq_true,decide_eq_true_eq,List.all_eq_true] at this
 exact ⟨this.1,this.2.1,this.2.2⟩
theorem Ov:∀x∈xsPq,(∀c∈x.data.toList,Vf c=true)∧1≤x.size∧x.size≤1:=by
 have:(xsPq.all fun x=> x.data.toList.all Vf && (decide (1≤x.size) && decide (x.size≤1)))=true:=by rfl
 intro x hx
 have:=List.all_eq_true.1 this x hx
 simp only [Bool.and_eq_true,decide_eq_true_eq,List.all_eq_true] at this
 exact ⟨this.1,this.2.1,this.2.2⟩
structure DrR (D:List Zi) (r:Zi):Prop where
 name:Ob r.name D.length
 kind:1≤r.kind∧r.kind≤10
 good:Zp D r=true
 little:Zx r=true
 kids:∀a∈r.kids,0≤a∧a < D.length
 lens:r.bytes.length≤3∧r.names.length≤3∧r.tags.length≤3∧r.kids.length≤4
 size:0≤r.size∧r.size≤4
 int:r.kind=1→r.size≤3
 nsz:∀s∈r.names,s.size≤5∧s.data.toList≠ [122,122]
 tags:∀a∈r.tags,0≤a∧a≤11
 first:r.kind≠1→0 < D.length
def Ud (D:List Zi):Prop:=∀k (hk:k < D.length),DrR (D.take k) D[k]
theorem Ud.nil:Ud []:=fun k hk=> absurd hk (by simp)
theorem Ud.snoc {D:List Zi} {r:Zi} (h:Ud D) (hr:DrR D r):Ud (D++ [r]):=by
 intro k hk
 rw [List.length_append,List.length_singleton] at hk
 by_cases e:k < D.length
 ·rw [List.take_append_of_le_length (by omega),List.getElem_append_left e]
  exact h k e
 ·have:k=D.length:=by omega
  subst this
  rw [List.take_append_of_le_length (Fu _),List.take_length,List.getElem_append_right (Fu _)]
  simpa using hr
theorem ruleAt_take {D:List Zi} {k:Nat} {i:Int} (h:i < k):Jo (D.take k) i=Jo D i:=by
 unfold Jo
 split
 ·rw [List.getElem?_take,if_pos (by omega)]
 ·rfl
theorem Fi {D:List Zi} {k:Nat} {i:Int} (h:i < k):Zr (D.take k) i=Zr D i:=by
 unfold Zr;rw [ruleAt_take h]
theorem kindR_congr {D D':List Zi} {r:Zi} (h:Zr D (Xt r 0)=Zr D' (Xt r 0)):Zp D r=Zp D' r:=by
 unfold Zp Yu
 rw [h]
theorem kid_lt {r:Zi} {n:Nat} (h:∀a∈r.kids,0≤a∧a < (n:Int)) (hn:0 < n) (j:Nat):0≤Xt r j∧Xt r j < n:=by
 by_cases hj:j < r.kids.length
 ·rw [Jb r j hj];exact h _ (Fw hj)
 ·unfold Xt
  rw [List.getD,List.getElem?_eq_none (by omega)]
  simp only [Option.getD_none]
  omega
theorem Ud.good {D:List Zi} (h:Ud D) (hl:D.length≤9) (k:Nat) (hk:k < D.length):Xi D k D[k]=true:=by
 have hr:=h k hk
 have hlt:(D.take k).length=k:=by rw [List.length_take];omega
 unfold Xi
 simp only [Bool.and_eq_true]
 have hkind:Zp D D[k]=true:=by
  rw [←hr.good]
  by_cases h1:D[k].kind=1
  ·unfold Zp;rw [if_pos h1,if_pos h1]
  ·have h0:=hr.first h1
   rw [hlt] at h0
   have:=kid_lt hr.kids (by rw [hlt];exact h0) 0
   rw [hlt] at this
   exact (kindR_congr (Fi this.2)).symm
 refine ⟨(Yw _ _).2 fun j hj=> ?_,(Yw _ _).2 fun j hj=> ?_,hr.name.nm,hkind,hr.little⟩
 ·rw [Oi D _ j (by omega)]
  have hj':=h j (by omega)
  have e:(D.take j).length=j:=by rw [List.length_take];omega
  have n1:=hj'.name
  have n2:=hr.name
  rw [e] at n1
  rw [hlt] at n2
  rw [n1.ne n2 (by omega) (by omega) (by omega)]
  rfl
 ·rw [Mi _ _ _ hj]
  have:=hr.kids _ (Fw hj)
  rw [hlt] at this
  exact Jv.2 (by omega)
theorem Ud.valid {D:List Zi} (h:Ud D) (h1:1≤D.length) (hl:D.length≤9):Yf D=true:=by
 unfold Yf
 rw [Bool.and_eq_true]
 exact ⟨(Yw _ _).2 fun k hk=> by rw [Pm D k hk];exact h.good hl k hk,Jv.2 (by omega)⟩
theorem total_bd (M:Nat):∀l:List ByteArray,(∀s∈l,s.size≤M)→Hv l≤l.length*M
 | [],_=> by simp [Hv]
 |s::l,h=> by
  have:=total_bd M l fun t ht=> h t (by simp [ht])
  have:=h s (by simp)
  rw [List.length_cons,Nat.succ_mul]
  simp only [Hv]
  omega
theorem DrR.small {D:List Zi} {r:Zi} (h:DrR D r):r.small 1048576:=by
 obtain ⟨l1,l2,l3,l4⟩:=h.lens
 have:=total_bd 5 r.names fun s hs=> (h.nsz s hs).1
 exact ⟨by have:=h.name.size;omega,by omega,by omega,by omega,by omega,by omega⟩
theorem DrR.ok {D:List Zi} {r:Zi} (h:DrR D r) (hD:D.length≤9):r.ok:=by
 have hz:=h.name.size
 have h1:=h.kind
 have h2:=h.size
 refine ⟨by unfold maxLen;omega,?_,?_,fun s hs=> ?_,fun a ha=> ?_,fun a ha=> ?_⟩
 ·unfold Qa;omega
 ·unfold Qa;omega
 ·have:=(h.nsz s hs).1;unfold maxLen;omega
 ·have:=h.tags a ha;unfold Qa;omega
 ·have:=h.kids a ha;unfold Qa;omega
theorem Ud.small {D:List Zi} (h:Ud D):∀r∈D,r.small 1048576:=fun r hr=> by
 obtain ⟨k,hk,rfl⟩:=List.getElem_of_mem hr
 exact (h k hk).small
theorem Ud.ok {D:List Zi} (h:Ud D) (hl:D.length≤9):∀r∈D,r.ok:=fun r hr=> by
 obtain ⟨k,hk,rfl⟩:=List.getElem_of_mem hr
 exact (h k hk).ok (by rw [List.length_take];omega)
theorem Ud.limit {D:List Zi} (h:Ud D) {k:Nat} (hk:k < D.length) (h1:D[k].kind=1):255≤Zr D k∧Zr D k≤16777215:=by
 have hr:=h k hk
 have hg:=hr.good
 have hi:=hr.int h1
 unfold Zp at hg
 rw [if_pos h1] at hg
 simp only [Bool.and_eq_true] at hg
 have hs:=Jv.1 hg.2.1
 unfold Zr Jo
 rw [if_pos (by omega),Int.toNat_natCast,List.getElem?_eq_getElem hk]
 show 255≤Yh D[k]∧Yh D[k]≤16777215
 unfold Yh
 rw [if_pos ⟨h1,hs.1,hs.2⟩]
 have h3:D[k].size=1∨D[k].size=2∨D[k].size=3:=by omega
 unfold Tb
 rcases h3 with e|e|e <;> rw [e] <;> decide
theorem Ud.head {D:List Zi} (h:Ud D) (h0:0 < D.length):D[0].kind=1:=by
 by_cases h1:D[0].kind=1
 ·exact h1
 ·have:=(h 0 h0).first h1
  rw [List.length_take] at this
  omega
section
variable {D:List Zi} {nm:ByteArray}
theorem dr_int {sz:Int} {lt:Bool} (hn:Ob nm D.length) (h1:1≤sz) (h2:sz≤3) (hl:lt=true→1 < sz):DrR D ⟨nm,1,sz,lt, [], [], [], []⟩:=by
 refine ⟨hn,by simp,?_,by simp [Zx],by simp,by simp,⟨by simp;omega,by simp;omega⟩,fun _=> h2,by simp,by simp,fun h=> absurd rfl h⟩
 have hi:Xs sz 1 4=true:=Jv.2 (by omega)
 cases lt with
 |false=> simp [Zp,Zg,hi]
 |true=> simp [Zp,Zg,hi,hl rfl]
theorem dr_const {b:List UInt8} (hn:Ob nm D.length) (h0:0 < D.length) (h1:1≤b.length) (h2:b.length≤3):DrR D ⟨nm,2,0,false,b, [], [], []⟩:=by
 refine ⟨hn,by simp,?_,by simp [Zx],by simp,by simp;omega,by simp,by simp,by simp,by simp,fun _=> h0⟩
 have hi:Xs b.length 1 16=true:=Jv.2 (by omega)
 simp [Zp,Zg,hi]
theorem dr_fixed {sz:Int} (hn:Ob nm D.length) (h0:0 < D.length) (h1:1≤sz) (h2:sz≤4):DrR D ⟨nm,3,sz,false, [], [], [], []⟩:=by
 refine ⟨hn,by simp,?_,by simp [Zx],by simp,by simp,⟨by simp;omega,by simp;omega⟩,by simp,by simp,by simp,fun _=> h0⟩
 have hi:Xs sz 1 64=true:=Jv.2 (by omega)
 simp [Zp,Zg,hi]
theorem dr_sized {i:Int} (hn:Ob nm D.length) (h1:0≤i) (h2:i < D.length) (h3:255≤Zr D i):DrR D ⟨nm,4,0,false, [], [], [], [i]⟩:=by
 refine ⟨hn,by simp,?_,by simp [Zx],by simp;omega,by simp,by simp,by simp,by simp,by simp,fun _=> by omega⟩
 have hi:0 < Zr D i:=by omega
 simp [Zp,Zg,Xt,hi]
theorem dr_array {i j:Int} (hn:Ob nm D.length) (h1:0≤i) (h2:i < D.length) (h3:255≤Zr D i) (h4:0≤j) (h5:j < D.length):DrR D ⟨nm,5,0,false, [], [], [], [i,j]⟩:=by
 refine ⟨hn,by simp,?_,by simp [Zx],by simp;omega,by simp,by simp,by simp,by simp,by simp,fun _=> by omega⟩
 have hi:0 < Zr D i:=by omega
 simp [Zp,Zg,Xt,hi]
theorem dr_opt {q j:Int} (hn:Ob nm D.length) (hq:q=8∨q=9) (h4:0≤j) (h5:j < D.length):DrR D ⟨nm,q,0,false, [], [], [], [j]⟩:=by
 refine ⟨hn,by simp;omega,?_,by simp [Zx],by simp;omega,by simp,by simp,by simp,by simp,by simp,fun _=> by omega⟩
 rcases hq with rfl|rfl <;> simp [Zp,Zg]
theorem dr_term {b:UInt8} (hn:Ob nm D.length) (h0:0 < D.length) (hb:b≠92):DrR D ⟨nm,10,0,false, [b], [], [], []⟩:=by
 refine ⟨hn,by simp,?_,by simp [Zx],by simp,by simp,by simp,by simp,by simp,by simp,fun _=> h0⟩
 simp [Zp,Zg,hb]
structure SeqI (n m:Nat) (names:List ByteArray) (kids:List Int):Prop where
 len:kids.length=names.length
 le:names.length≤m
 m3:m≤3
 nm:∀j (hj:j < names.length),Ob names[j] (m - j)
 kids:∀a∈kids,0≤a∧a < (n:Int)
theorem SeqI.nil {n m:Nat} (h:m≤3):SeqI n m [] []:=⟨rfl,Eb _,h,fun j hj=> absurd hj (by simp),by simp⟩
theorem SeqI.snoc {n m:Nat} {names:List ByteArray} {kids:List Int} {s:ByteArray} {a:Int} (h:SeqI n m names kids) (hl:names.length < m) (hs:Ob s (m - names.length)) (h1:0≤a) (h2:a < n):SeqI n m (names++ [s]) (kids++ [a]):=by
 refine ⟨by simp [h.len],by simp;omega,h.m3,fun j hj=> ?_,fun b hb=> ?_⟩
 ·by_cases e:j < names.length
  ·rw [List.getElem_append_left e];exact h.nm j e
  ·have:j=names.length:=by simp at hj;omega
   subst this
   rw [List.getElem_append_right (Fu _)]
   simpa using hs
 ·rcases List.mem_append.1 hb with hb|hb
  ·exact h.kids b hb
  ·simp at hb;subst hb;exact ⟨h1,h2⟩
theorem dr_seq {m:Nat} {names:List ByteArray} {kids:List Int} (hn:Ob nm D.length) (h:SeqI D.length m names kids) (hm:names.length=m) (h1:1≤m) (h0:0 < D.length):DrR D ⟨nm,6,0,false, [],names, [],kids⟩:=by
 have h3:=h.m3
 have hl:=h.len
 refine ⟨hn,by simp,?_,by simp [Zx],h.kids,by simp;omega,by simp,by simp,fun s hs=> ?_,by simp,fun _=> h0⟩
 ·have hi:Xs names.length 1 8=true:=Jv.2 (by omega)
  have ha:Jg (Il names) names.length=true:=(Yw _ _).2 fun j hj=> by
   rw [Ki _ _ hj,(h.nm j hj).nm,Bool.true_and,Bool.not_eq_true']
   unfold Ry
   rw [List.any_eq_false]
   intro x hx
   obtain ⟨i,hi,rfl⟩:=List.getElem_of_mem hx
   rw [List.length_take] at hi
   rw [List.getElem_take]
   have:=(h.nm i (by omega)).ne (h.nm j hj) (by omega) (by omega) (by omega)
   simpa using this
  simp [Zp,Zg,Jq,hl,hi,ha]
 ·obtain ⟨i,hi,rfl⟩:=List.getElem_of_mem hs
  have hn:=h.nm i hi
  refine ⟨hn.size,fun e=> ?_⟩
  have hl:=hn.last
  rw [e] at hl
  have h2:(122:UInt8)=dg (m - i):=Fz hl
  have:=congrArg UInt8.toNat h2
  unfold dg at this
  simp at this
  omega
structure ChI (n:Nat) (tags kids:List Int):Prop where
 len:kids.length=tags.length
 tg:∀j (hj:j < tags.length),4*(j:Int)≤tags[j]∧tags[j]≤4*j+3
 kids:∀a∈kids,0≤a∧a < (n:Int)
theorem ChI.nil {n:Nat}:ChI n [] []:=⟨rfl,fun j hj=> absurd hj (by simp),by simp⟩
theorem ChI.snoc {n:Nat} {tags kids:List Int} {t a:Int} (h:ChI n tags kids) (ht:4*(tags.length:Int)≤t) (ht2:t≤4*tags.length+3) (h1:0≤a) (h2:a < n):ChI n (tags++ [t]) (kids++ [a]):=by
 refine ⟨by simp [h.len],fun j hj=> ?_,fun b hb=> ?_⟩
 ·by_cases e:j < tags.length
  ·rw [List.getElem_append_left e];exact h.tg j e
  ·have:j=tags.length:=by simp at hj;omega
   subst this
   rw [List.getElem_append_right (Fu _)]
   simp
   omega
 ·rcases List.mem_append.1 hb with hb|hb
  ·exact h.kids b hb
  ·simp at hb;subst hb;exact ⟨h1,h2⟩
theorem dr_choice {i:Int} {tags kids:List Int} (hn:Ob nm D.length) (h1:0≤i) (h2:i < D.length) (h3:255≤Zr D i) (h:ChI D.length tags kids) (ht:1≤tags.length) (ht2:tags.length≤3):DrR D ⟨nm,7,0,false, [], [],tags,i::kids⟩:=by
 have hl:=h.len
 refine ⟨hn,by simp,?_,by simp [Zx],fun a ha=> ?_,by simp;omega,by simp,by simp,by simp,fun a ha=> ?_,fun _=> by omega⟩
 ·have hi:Xs tags.length 1 8=true:=Jv.2 (by omega)
  have ha:Jg (Rt (Zr D i) tags) tags.length=true:=(Yw _ _).2 fun j hj=> by
   have t1:=h.tg j hj
   cases j with
   |zero=> rw [Uj _ _ hj];exact Jv.2 (by omega)
   |succ j=>
    have t2:=h.tg j (by omega)
    rw [Uk _ _ _ hj,Bool.and_eq_true]
    exact ⟨Jv.2 (by omega),Fy (by omega)⟩
  simp [Zp,Zg,Yu,Xt,hl,hi,ha]
 ·rcases List.mem_cons.1 ha with rfl|ha
  ·exact ⟨h1,h2⟩
  ·exact h.kids a ha
 ·obtain ⟨j,hj,rfl⟩:=List.getElem_of_mem ha
  change j < tags.length at hj
  have:=h.tg j hj
  show 0≤tags[j]∧tags[j]≤11
  omega
end
def Zy (lo hi:Nat) (P:World→Prop) (w:World):Prop:=hi≤w.heap.size∧∀w':World,w.heap.size≤w'.heap.size→(∀k,lo≤k→k < hi→w'.heap[k]?=w.heap[k]?)→P w'
section
variable {lo hi lo' hi' b B:Nat} {P Q:World→Prop} {w w':World}
theorem Zy.now (h:Zy lo hi P w):P w:=h.2 w (Fu _) fun _ _ _=> rfl
theorem Zy.step (h:Zy lo hi P w) (hz:w.heap.size≤w'.heap.size) (hk:∀k,lo≤k→k < hi→w'.heap[k]?=w.heap[k]?):Zy lo hi P w':=⟨Nat.le_trans h.1 hz,fun w2 h2 k2=>
 h.2 w2 (Nat.le_trans hz h2) fun k h1 h3=> (k2 k h1 h3).trans (hk k h1 h3)⟩
theorem Zy.go (h:Zy lo hi P w) (hg:Qx b w w') (hb:b < lo):Zy lo hi P w':=h.step hg.size fun k h1 h2=> hg.block k (Ea h2 h.1) (fun e=> by injection e;omega)
theorem Zy.below (h:Zy lo hi P w) (hb:Below w.heap.size w w'):Zy lo hi P w':=h.step hb.size fun k _ h2=> hb.block k (Ea h2 h.1)
theorem Zy.set (h:Zy lo hi P w) {g j:Nat} (hg:g < lo∨hi≤g) (u:Value):Zy lo hi P (w.setCell ⟨g,j,none⟩ u):=h.step (by simp [World.setCell]) fun k h1 h2=> Below.heap_setCell _ _ _ k (by rintro rfl;omega)
theorem Zy.row (h:Zy lo hi P w) {row:Option Nat} (hg:w.grownBy w' row) (hr:∀k,row=some k→k < lo∨hi≤k):Zy lo hi P w':=h.step hg.size fun k h1 h2=> hg.block k (Ea h2 h.1) (fun e=> by have:=hr k e.symm;omega)
theorem Zy.wide (h:Zy lo hi P w) (hl:lo'≤lo) (hh:hi≤hi') (hw:hi'≤w.heap.size):Zy lo' hi' P w:=⟨hw,fun w2 h2 k2=> h.2 w2 h2 fun k h1 h3=> k2 k (by omega) (by omega)⟩
theorem Zy.imp (h:Zy lo hi P w) (hq:∀w,P w→Q w):Zy lo hi Q w:=⟨h.1,fun w2 h2 k2=> hq _ (h.2 w2 h2 k2)⟩
theorem Zy.and (h:Zy lo hi P w) (h':Zy lo hi Q w):Zy lo hi (fun w=> P w∧Q w) w:=⟨h.1,fun w2 h2 k2=> ⟨h.2 w2 h2 k2,h'.2 w2 h2 k2⟩⟩
end
theorem Sl.of_lt {w:World} {B size n:Nat} {v:Value} {xs:List Value} {base:Nat} {e:TypeId} (h:w.ownsRow base e size v n xs) (hB:∀g,v.ownBlock=some g→g < B):Sl w B size v n xs:=by
 refine ⟨h.1,?_⟩
 rcases h.2 with ⟨rfl,rfl⟩|⟨g,cap,cur,rfl,hb,hg,hc,hm,hs,ht⟩
 ·exact ⟨none,0,rfl,Fu _,Eb _,fun h=> absurd h (by omega)⟩
 ·refine ⟨_,_,rfl,hc,hm,fun _=> ⟨g,0,rfl,hB g rfl,fun j u hu=> ?_⟩⟩
  have:=h.cells (g:=g) rfl j u hu
  have hadd:(⟨g,0,none⟩:Addr).add j=⟨g,j,none⟩:=by unfold Addr.add;split <;> simp_all
  rw [hadd] at this
  simpa using this
theorem Le {w:World} {lo hi base size n:Nat} {e:TypeId} {v:Value} {xs:List Value} (h:w.ownsRow base e size v n xs) (hlo:lo≤base) (hb:∀g,v.ownBlock=some g→g < hi) (hh:hi≤w.heap.size):Zy lo hi (fun w'=> Sl w' hi size v n xs) w:=⟨hh,fun w2 h2 k2=>
 Sl.of_lt (Ql h fun g hg=> k2 g (Nat.le_trans hlo (h.lt g hg).1) (hb g hg)) hb⟩
theorem Tr {w:World} {lo base size n:Nat} {e:TypeId} {v:Value} {xs:List Value} (h:w.ownsRow base e size v n xs) (hlo:lo≤base):Zy lo w.heap.size (fun w'=> Sl w' w.heap.size size v n xs) w:=Le h hlo (fun g hg=> (h.lt g hg).2) (Fu _)
theorem VM.own.stays {w:World} {lo base:Nat} {x:VM} (h:x.own base w) (hlo:lo≤base):Zy lo w.heap.size (fun w'=> x.rd w' w.heap.size) w:=by
 refine ⟨Fu _,?_⟩
 induction h with
 |mk hb hi hx ih=> exact fun w2 h2 k2=> .mk ((Tr hb hlo).2 w2 h2 k2) ((Tr hi hlo).2 w2 h2 k2) fun x hx=> ih x hx w2 h2 k2
def Zo (w:World) (g:Nat) (T:TypeId) (cs:Array Value):Prop:=w.heap[g]?=some (.cells cs T (0,0))
section
variable {w w':World} {g b o:Nat} {T:TypeId} {cs:Array Value}
theorem Zo.lt (h:Zo w g T cs):g < w.heap.size:=(Array.getElem?_eq_some_iff.1 h).1
theorem Zo.go (h:Zo w g T cs) (hg:Qx b w w') (hb:b≠g):Zo w' g T cs:=(hg.block g h.lt (fun e=> hb (Fz e).symm)).trans h
theorem Zo.below (h:Zo w g T cs) (hb:Below w.heap.size w w'):Zo w' g T cs:=(hb.block g h.lt).trans h
theorem Zo.new (w:World) (T:TypeId) (cs:Array Value):Zo (w.alloc (.cells cs T)) w.heap.size T cs:=World.alloc_heap_new w _
theorem Zo.alloc (h:Zo w g T cs) (ob:Obj):Zo (w.alloc ob) g T cs:=(Below.heap_alloc w ob g h.lt).trans h
theorem Zo.cell (h:Zo w g T cs) (j:Nat) {u:Value} (hu:cs[j]?=some u):w.cell? ⟨g,j,none⟩=some u:=(cell_of_row _ _ j _ _ (0,0) h).trans hu
theorem Zo.frozen (h:Zo w g T cs) (j:Nat):w.frozen? ⟨g,j,none⟩=false:=frozen_of_row _ _ j _ _ h
theorem Zo.set (h:Zo w g T cs) (j:Nat) (u:Value):Zo (w.setCell ⟨g,j,none⟩ u) g T (cs.setIfInBounds j u):=by
 have:=Go.heap_setCell_same w g j cs T u h
 exact this
theorem Zo.other (h:Zo w g T cs) {q j:Nat} (hq:q≠g) (u:Value):Zo (w.setCell ⟨q,j,none⟩ u) g T cs:=(Below.heap_setCell _ _ _ g (fun e=> hq e.symm)).trans h
theorem Zo.row (h:Zo w g T cs) {row:Option Nat} (hg:w.grownBy w' row) (hn:row≠some g):Zo w' g T cs:=(hg.block g h.lt (fun e=> hn e.symm)).trans h
theorem Qx.set {a:World} (h:Qx b a w) {q j:Nat} (hq:a.heap.size≤q) (u:Value):Qx b a (w.setCell ⟨q,j,none⟩ u):=
 have k:=Jj w q j u
 ⟨k.os.trans h.os,k.tape.trans h.tape,k.output.trans h.output,Nat.le_trans h.size k.size,fun i hi hne=> (k.block i (Ea hi h.size) (fun e=> by injection e;omega)).trans (h.block i hi hne)⟩
theorem Qx.rowG {a:World} {row:Option Nat} (h:Qx b a w) (hg:w.grownBy w' row) (hr:∀k,row=some k→a.heap.size≤k):Qx b a w':=
 ⟨hg.os.trans h.os,hg.tape.trans h.tape,hg.output.trans h.output,Nat.le_trans h.size hg.size,fun k hk hne=> (hg.block k (Ea hk h.size) (fun e=> by have:=hr k e.symm;omega)).trans (h.block k hk hne)⟩
theorem Qx.drew {a:World} (h:Qx b a w):Qx b a w.drew:=⟨h.os,h.tape,h.output,h.size,h.block⟩
theorem Qx.drewN {a:World} (h:Qx b a w) (n:Nat):Qx b a (w.drewN n):=⟨h.os,h.tape,h.output,h.size,h.block⟩
theorem Qo.rowG {v:Value} {l:List UInt8} {row:Option Nat} (h:Qo b v l w) (hg:w.grownBy w' row) (hr:∀k,row=some k→b < k):Qo b v l w':=by
 have hb:Below (b+1) w w':=(Fv (b+1) w).grown hg h.lt (fun k e=> hr k e)
 exact ⟨Sl.below h.sl (hb.mono (by omega)),h.at_.grown hb⟩
theorem Qo.set {v:Value} {l:List UInt8} (h:Qo b v l w) {q j:Nat} (hq:b < q) (u:Value):Qo b v l (w.setCell ⟨q,j,none⟩ u):=h.rowG (Jj w q j u) fun k e=> by cases e;exact hq
theorem Qo.drew {v:Value} {l:List UInt8} (h:Qo b v l w):Qo b v l w.drew:=⟨h.sl,h.at_⟩
end
theorem Me {b base:Nat} {w w':World} {e:TypeId} {size:Nat} {v:Value} {n:Nat} {xs:List Value} (h:w.ownsRow base e size v n xs) (hs:Qx b w w') (hb:b < base):w'.ownsRow base e size v n xs:=
 Ql h fun g hg=> hs.block g (h.lt g hg).2 (fun e=> by injection e;have:=(h.lt g hg).1;omega)
theorem Tj {w:World} {g size:Nat} {T:TypeId} {xs:List Value} (h:Zo w g T xs.toArray) (hn:xs.length=size) {B:Nat} (hB:g < B):Sl w B size (.slice (some ⟨g,0,none⟩) 1 1) 1 xs:=by
 refine ⟨by omega,_,_,rfl,Fu _,by simp [maxLen],fun _=> ⟨g,0,rfl,hB,fun j u hu=> ?_⟩⟩
 rw [Nat.zero_add]
 exact h.cell j (by simpa using hu)
theorem own_blk {w:World} {g base n:Nat} {T:TypeId} {xs:List Value} (h:Zo w g T xs.toArray) (hn:xs.length=n) (hm:n≤maxLen) (hb:base≤g):w.ownsRow base T 1 (.slice (some ⟨g,0,none⟩) n n) n xs:=
 ⟨by omega, .inr ⟨g,n,xs.toArray,rfl,hb,h,Fu _,hm,by simp;omega,by simp [←hn]⟩⟩
structure DG (lo:Nat) (w:World) (v:Value) (l:List RM):Prop where
 row:w.ownsRow lo 50 8 v l.length (l.flatMap Qq)
 parts:∀r∈l,∀w':World,w.heap.size≤w'.heap.size→(∀k,lo≤k→k < w.heap.size→v.ownBlock≠some k→w'.heap[k]?=w.heap[k]?)→r.rd w' w.heap.size
theorem DG.nil (lo:Nat) (w:World):DG lo w (.slice none 0 0) []:=⟨World.ownsRow_nil _ _ _ _,by simp⟩
theorem DG.stays {lo:Nat} {w:World} {v:Value} {l:List RM} (h:DG lo w v l):Zy lo w.heap.size (fun w'=> Qz w' w.heap.size v l) w:=⟨Fu _,fun w2 h2 k2=>
 ⟨(Tr h.row (Fu _)).2 w2 h2 k2,fun r hr=> h.parts r hr w2 h2 fun k h1 h3 _=> k2 k h1 h3⟩⟩
theorem DG.step {lo:Nat} {w w':World} {v:Value} {l:List RM} (h:DG lo w v l) (hz:w.heap.size≤w'.heap.size) (hk:∀k,lo≤k→k < w.heap.size→w'.heap[k]?=w.heap[k]?):DG lo w' v l:=
 ⟨Ql h.row fun g hg=> hk g (h.row.lt g hg).1 (h.row.lt g hg).2,fun r hr w2 h2 k2=> (h.parts r hr w2 (Nat.le_trans hz h2) fun k h1 h3 hn=> (k2 k h1 (Ea h3 hz) hn).trans (hk k h1 h3)).more hz⟩
theorem DG.go {lo b:Nat} {w w':World} {v:Value} {l:List RM} (h:DG lo w v l) (hg:Qx b w w') (hb:b < lo):DG lo w' v l:=h.step hg.size fun k h1 h2=> hg.block k h2 (fun e=> by injection e;omega)
theorem DG.below {lo:Nat} {w w':World} {v:Value} {l:List RM} (h:DG lo w v l) (hb:Below w.heap.size w w'):DG lo w' v l:=h.step hb.size fun k _ h2=> hb.block k h2
theorem DG.snoc {lo:Nat} {w w2 w3 wa:World} {v v':Value} {l:List RM} {r:RM} (h:DG lo w2 v l) (hr:Zy w.heap.size w2.heap.size (fun w'=> r.rd w' w2.heap.size) w2) (hv:∀g,v.ownBlock=some g→g < w.heap.size) (hw:w.heap.size≤w2.heap.size) (hlo:lo≤w.heap.size)
  (ha:Below w2.heap.size w2 wa) (hrow:w3.ownsRow lo 50 8 v' (l.length+1) (l.flatMap Qq++Qq r)) (hg:wa.grownBy w3 v.ownBlock) (hb:v'.ownBlock=v.ownBlock∨v'.ownBlock=some wa.heap.size):DG lo w3 v' (l++ [r]):=by
 have hz:=ha.size
 have hz3:=hg.size
 refine ⟨by rw [List.length_append,List.flatMap_append];simpa using hrow,fun q hq w4 h4 k4=> ?_⟩
 have hkeep:∀k,lo≤k→k < w2.heap.size→v.ownBlock≠some k→w4.heap[k]?=w2.heap[k]?:=fun k h1 h2 hn=> by
  rw [k4 k h1 (by omega) (fun e=> by
   rcases hb with e2|e2
   ·exact hn (e2 ▸ e)
   ·rw [e2] at e;injection e;omega),hg.block k (by omega) (fun e=> hn e.symm),ha.block k h2]
 rcases List.mem_append.1 hq with hq|hq
 ·exact (h.parts q hq w4 (by omega) hkeep).more (by omega)
 ·simp only [List.mem_singleton] at hq
  subst hq
  exact (hr.2 w4 (by omega) fun k h1 h2=> hkeep k (by omega) h2 (fun e=> by have:=hv k e;omega)).more (by omega)
theorem slb_oneG {W:World} {z:Int} (h0:0≤z) (h1:z≤255) {g:Nat} (hg:g=W.heap.size):Xu (W.alloc (.cells #[.int .u8 z] 5)) (W.heap.size+1) (.slice (some ⟨g,0,none⟩) 1 1) [UInt8.ofNat z.toNat]:=by
 subst hg
 refine ⟨by simp,_,_,rfl,by simp,by simp [maxLen],fun _=> ⟨W.heap.size,0,rfl,by omega,fun j u hu=> ?_⟩⟩
 match j,hu with
 |0,hu=>
  simp only [Uy,List.map_cons,List.map_nil,List.getElem?_cons_zero,Option.some.injEq] at hu
  subst hu
  have e:((UInt8.ofNat z.toNat).toNat:Int)=z:=by rw [UInt8.toNat_ofNat'];omega
  simp [go_sem,u8v]
  omega
 |j+1,hu=> simp [Uy] at hu
theorem Tv (b lo hi B:Nat) (v u:Value) (l:List UInt8) (xs:List Int) (w:World) (h:Qo b v l w) (hu:Zy lo hi (fun w'=> Yt w' B u xs) w) (hlo:b < lo) (h1:1≤xs.length) (h2:xs.length≤256):
  Calls prog 49 #[.pointer (some ⟨b,0,none⟩),u] w fun e w'=> (∃x∈xs,e= .returned (.int .i64 x))∧Qx b w w'∧w'.heap.size=w.heap.size∧Qo b v l w':=by
 obtain ⟨A,c,rfl,hc,hm,hcell⟩:=Sl.one hu.now
 unfold maxLen at hm
 go_enter func49,ntmps49
 go_wp2_with fail
 refine (Qn b b v l xs.length w h (by omega) (by omega)).mono ?_
 rintro e w1 ⟨⟨x,rfl,hx0,hx1⟩,hs,hz,hcw⟩
 obtain ⟨k,rfl⟩:=Int.eq_ofNat_of_zero_le hx0
 have hk:k < xs.length:=by omega
 obtain ⟨A',c',e',_,_,hcell2⟩:=Sl.one (hu.go hs hlo).now
 cases e'
 obtain ⟨bb,off,rfl,hbb,hd⟩:=hcell2 k hk
 have hmem:xs[k]∈xs:=Fw hk
 generalize xs[k]=y at*
 have H:=Fs (Ft hmem (Ft hs (Ft hz hcw)))
 clear hcell hcell2 hu h hs hz hcw hmem
 go_wp2
 go_ret
 exact ⟨⟨y,H.out.1,rfl⟩,H.out.2⟩
theorem Ti (b:Nat) (v:Value) (l:List UInt8) (M:Nat) (w:World) (h:Qo b v l w) (hm2:M≤1000):
  Calls prog 55 #[.pointer (some ⟨b,0,none⟩), .int .i64 M] w fun e w'=> ∃u xs,e= .returned u∧xs.length=M∧w'.ownsRow w.heap.size 5 1 u xs.length (Uy xs)∧Qx b w w'∧Qo b v l w':=by
 obtain ⟨i0,hi,hz0,hz1,hz2⟩:=info_parts info_u8
 have hbw:=h.lt
 have H:=Fs h
 clear h
 go_enter func55,ntmps55
 go_wp2
 go_loopw [5,6] (fun o i wr=> ∃xs:List UInt8,xs.length≤M∧i= .int .i64 xs.length∧wr.ownsRow w.heap.size 5 1 o xs.length (Uy xs)∧Qx b w wr∧Qo b v l wr) (fun _ i _=> M - (intOf i).toNat)
 case atStart=> exact ⟨[],Eb _,rfl,Ps _ _ _,(Qx.of_below (Fv _ _)).alloc _,H.out.alloc _⟩
 case round=>
  obtain ⟨xs,hk,rfl,hown,hb,hcu⟩:=hrel
  by_cases hlt:xs.length < M
  ·have hlt2:(xs.length:Int) < M:=by omega
   have hsz:=hb.size
   have hOW:=Fs hown
   have hBB:=Fs hb
   have hCU:=Fs hcu
   have hbr:=hcu.lt
   clear hown hb hcu
   go_wp2_with (first|(go_at_call 56;refine (Tw b b v l _ hCU.out.sl (Fu _) hCU.out.at_).mono ?_;rintro e w1 ⟨⟨x,rfl,hx0,hx1⟩,hs,hcu⟩;have hS:=Fs (Me hOW.out hs.1 (by omega));have hC1:=Fs (hCU.out.step hs.1 hcu);have hB1:=Fs (hBB.out.trans hs.1);have hsz1:=Fs hs.2;clear hs hcu)|(at_builtin;refine Xv _ rfl (.tmp 13) (.tmp 17) 22 rfl w.heap.size 5 i0 (.int .u8 0) 1 1 underlying22 hi hz0 hz1 hz2 rfl (by decide) _ xs.length _ rfl (Qb hS.out ((Fv _ _).alloc (Fu _) _) (Fu _)) _ 1 _ (Uy [UInt8.ofNat x.toNat]) rfl (slb_oneG hx0 hx1 rfl) (Xm _) (by omega) (by unfold maxLen;omega) (by have:=hsz1.out;simp;omega) ?_;intro v2 w2 own2 hg2 _))
   have hlt3:=hS.out.lt
   rw [←Ku] at own2
   have H2:=Fs (Ft own2 (Ft ((hB1.out.alloc _).rowG hg2 fun k e=> (hlt3 k e).1) ((hC1.out.alloc _).rowG hg2 fun k e=> by have:=(hlt3 k e).1;omega)))
   clear own2 hg2 hlt3 hS hC1 hB1 hOW hBB hCU
   go_roundw
   case rel=> exact ⟨xs++ [UInt8.ofNat x.toNat],by simp;omega,by simp,by simpa using H2.out.1,H2.out.2.1,H2.out.2.2⟩
   case measure=> simp [intOf];omega
  ·have hM:xs.length=M:=by omega
   have H2:=Fs (Ft hown (Ft hb hcu))
   clear hown hb hcu
   go_wp2
   go_ret
   exact ⟨_,xs,rfl,hM,H2.out.1,H2.out.2.1,H2.out.2.2⟩
theorem Pq {W:World} {u:Value} {t:TypeId} {g:Nat} (hg:g=W.heap.size):Sl (W.alloc (.cells #[u] t)) (W.heap.size+1) 1 (.slice (some ⟨g,0,none⟩) 1 1) 1 [u]:=by
 subst hg
 refine ⟨rfl,_,_,rfl,Fu _,by simp [maxLen],fun _=> ⟨W.heap.size,0,rfl,by omega,fun j u' hu=> ?_⟩⟩
 match j,hu with
 |0,hu=> simp only [List.getElem?_cons_zero,Option.some.injEq] at hu;subst hu;simp [go_sem]
 |j+1,hu=> simp at hu
theorem Rk (b lo B:Nat) (v vD:Value) (l:List UInt8) (L:List RM) (w:World) (h:Qo b v l w) (hd:Zy lo B (fun w'=> Qz w' B vD L) w) (hlo:b < lo) (hB:B≤w.heap.size) (h1:0 < L.length) (h9:L.length≤9) (hk:L[0].d.kind=1):
  Calls prog 71 #[.pointer (some ⟨b,0,none⟩), .agg #[vD]] w fun e w'=> (∃k,∃hk:k < L.length,e= .returned (.int .i64 k)∧L[k].d.kind=1)∧Qx b w w'∧Qo b v l w':=by
 obtain ⟨i0,hi,hz0,hz1,hz2⟩:=info_parts info_i64
 obtain ⟨A,c,rfl,hc,hm, -⟩:=hd.now.open_
 unfold maxLen at hm
 have hbw:=h.lt
 have H:=Fs h
 have HD:=Fs hd
 have HK:=Fs hk
 clear h hd hk
 go_enter func71,ntmps71
 go_wp2
 have hb0:Below (w.heap.size+1) (w.alloc (.cells #[.slice A L.length c] 26)) ((w.alloc (.cells #[.slice A L.length c] 26)).alloc (.cells #[] 3)):=(Fv _ _).alloc (by simp) _
 have hz0':(w.alloc (.cells #[.slice A L.length c] 26)).heap.size=w.heap.size+1:=by simp
 have hs0:(w.alloc (.cells #[.slice A L.length c] 26)).cell? ⟨w.heap.size,0,none⟩=some (.slice A L.length c):=by simp [go_sem]
 have ho0:((w.alloc (.cells #[.slice A L.length c] 26)).alloc (.cells #[] 3)).ownsRow (w.heap.size+1) 3 1 (.slice (some ⟨w.heap.size+1,0,none⟩) 0 0) 0 []:=Ji (by simp) (Fu _)
 have hbb:Below w.heap.size w (w.alloc (.cells #[.slice A L.length c] 26)):=(Fv _ _).alloc (Fu _) _
 generalize w.alloc (.cells #[.slice A L.length c] 26)=W at*
 have HBB:=Fs hbb
 go_loopw [5,6] (fun o i wr=> ∃(k:Nat) (R:List Int),k≤L.length∧i= .int .i64 k∧R.length≤k∧(0 < k→0 < R.length)∧(∀a∈R,∃q:Nat,∃hq:q < L.length,a=q∧L[q].d.kind=1)∧wr.ownsRow (w.heap.size+1) 3 1 o R.length (R.map (.int .i64))∧Below (w.heap.size+1) W wr) (fun _ i _=> L.length - (intOf i).toNat)
 case atStart=> exact ⟨0, [],Eb _,rfl,Eb _,fun h=> absurd h (by omega),by simp,ho0,hb0⟩
 case round=>
  clear ho0 hb0
  obtain ⟨k,R,hk,rfl,hR,hpos,hall,hown,hb⟩:=hrel
  have hsz:=hb.size
  have bw:Below w.heap.size w wr:=HBB.out.trans (hb.mono (by omega))
  have s0:=Zc hs0 hb (by omega)
  have HA:=Fs hall
  have HO:=Fs hown
  have HW:=Fs (Ft hb bw)
  clear hall hown hs0 hbb
  by_cases hlt:k < L.length
  ·obtain ⟨A',c',e',_,_,hcell⟩:=(HD.out.below bw).now.open_
   cases e'
   obtain ⟨bb,off,rfl,hbB, -,p1, -⟩:=hcell k hlt
   clear hcell hb bw
   by_cases hq:L[k].d.kind=1
   ·have HQ:=Fs hq
    rw [hq] at p1
    clear hq
    go_wp2_with (at_builtin;refine Xv _ rfl (.tmp 22) (.tmp 24) 48 rfl (w.heap.size+1) 3 i0 (.int .i64 0) 1 8 underlying48 hi hz0 hz1 hz2 rfl (by decide) _ R.length _ rfl (HO.out.alloc _) _ 1 _ [.int .i64 k] rfl (Pq rfl) (by simp [Value.oneCell']) (by omega) (by unfold maxLen;omega) (by simp;omega) ?_;intro v2 w2 own2 hg2 _)
    have hlt3:=HO.out.lt
    have H2:=Fs (Ft own2 ((HW.out.1.alloc (by omega) (.cells #[.int .i64 k] 3)).grown hg2 (by simp;omega) fun g e=> (hlt3 g e).1))
    clear own2 hg2 hlt3 p1 s0
    go_roundw
    case rel=> exact ⟨k+1,R++ [(k:Int)],by omega,by go_num,by simp;omega,by simp,fun a ha=> by
     rcases List.mem_append.1 ha with ha|ha
     ·exact HA.out a ha
     ·simp at ha;subst ha;exact ⟨k,hlt,rfl,HQ.out⟩,by simpa using H2.out.1,H2.out.2⟩
    case measure=> simp [intOf];omega
   ·have hne:(L[k].d.kind==1)=false:=by rw [beq_eq_false_iff_ne];exact hq
    have hk0:0 < k:=by
     rcases Nat.eq_zero_or_pos k with rfl|h
     ·exact absurd HK.out hq
     ·exact h
    have hR0:=hpos hk0
    clear hq
    go_wp2
    go_roundw
    case rel=> exact ⟨k+1,R,by omega,by go_num,by omega,fun _=> hR0,HA.out,HO.out,HW.out.1⟩
    case measure=> simp [intOf];omega
  ·have hkl:k=L.length:=by omega
   subst hkl
   have hR0:=hpos h1
   have hst:=Tr (lo:=w.heap.size+1) HO.out (Fu _)
   have HST:=Fs hst
   have HC:=Fs (H.out.below bw)
   clear hst hb bw
   go_wp2_with fail
   refine (Tv b (w.heap.size+1) wr.heap.size wr.heap.size v _ l R wr HC.out HST.out (by omega) (by omega) (by omega)).mono ?_
   rintro e w2 ⟨⟨x,hx,rfl⟩,hg,_,hc2⟩
   obtain ⟨q,hq,rfl,hq1⟩:=HA.out x hx
   have HF:=Fs (Ft hq1 (Ft ((Qx.of_below HW.out.2).trans hg) hc2))
   clear hg hc2 hx hq1
   go_wp2
   go_ret
   exact ⟨⟨q,hq,rfl,HF.out.1⟩,HF.out.2⟩
theorem Zo.c8 {w:World} {g:Nat} {T:TypeId} {a0 a1 a2 a3 a4 a5 a6 a7:Value} (h:Zo w g T #[a0,a1,a2,a3,a4,a5,a6,a7]):
  (w.cell? ⟨g,0,none⟩=some a0∧w.cell? ⟨g,1,none⟩=some a1∧w.cell? ⟨g,2,none⟩=some a2∧w.cell? ⟨g,3,none⟩=some a3∧w.cell? ⟨g,4,none⟩=some a4∧w.cell? ⟨g,5,none⟩=some a5∧w.cell? ⟨g,6,none⟩=some a6∧w.cell? ⟨g,7,none⟩=some a7)∧
  (w.frozen? ⟨g,0,none⟩=false∧w.frozen? ⟨g,1,none⟩=false∧w.frozen? ⟨g,2,none⟩=false∧w.frozen? ⟨g,3,none⟩=false∧w.frozen? ⟨g,4,none⟩=false∧w.frozen? ⟨g,5,none⟩=false∧w.frozen? ⟨g,6,none⟩=false∧w.frozen? ⟨g,7,none⟩=false):=
 ⟨⟨h.cell 0 rfl,h.cell 1 rfl,h.cell 2 rfl,h.cell 3 rfl,h.cell 4 rfl,h.cell 5 rfl,h.cell 6 rfl,h.cell 7 rfl⟩,h.frozen 0,h.frozen 1,h.frozen 2,h.frozen 3,h.frozen 4,h.frozen 5,h.frozen 6,h.frozen 7⟩
structure Py (b lo B:Nat) (v:Value) (l:List UInt8) (vD:Value) (L:List RM) (w:World) (g:Nat) (cs:Array Value) (W:World):Prop where
 cur:Qo b v l W
 st:Zy lo B (fun w'=> Qz w' B vD L) W
 go:Qx b w W
 dbox:Zo W w.heap.size 26 #[vD]
 res:Zo W (w.heap.size+1) 50 #[.string ⟨#[]⟩, .int .i64 0, .int .i64 0, .bool false, .slice none 0 0, .slice none 0 0, .slice none 0 0, .slice none 0 0]
 box:Zo W g 50 cs
 hb:b < w.heap.size
 hlo:b < lo
 hg:w.heap.size+2≤g
 hB:B≤w.heap.size
section
variable {b lo B g:Nat} {v vD:Value} {l:List UInt8} {L:List RM} {w W W':World} {cs:Array Value}
theorem Py.step (h:Py b lo B v l vD L w g cs W) (hs:Qx b W W') (hc:Qo b v l W'):Py b lo B v l vD L w g cs W':=
 have h1:=h.hb
 have h2:=h.hg
 ⟨hc,h.st.go hs h.hlo,h.go.trans hs,h.dbox.go hs (by omega),h.res.go hs (by omega),h.box.go hs (by omega),h.hb,h.hlo,h.hg,h.hB⟩
theorem Py.below (h:Py b lo B v l vD L w g cs W) (hb:Below W.heap.size W W'):Py b lo B v l vD L w g cs W':=h.step (Qx.of_below hb) (h.cur.below hb)
theorem Py.alloc (h:Py b lo B v l vD L w g cs W) (o:Obj):Py b lo B v l vD L w g cs (W.alloc o):=h.below ((Fv _ _).alloc (Fu _) o)
theorem Py.drew (h:Py b lo B v l vD L w g cs W):Py b lo B v l vD L w g cs W.drew:=h.step ⟨rfl,rfl,rfl,Fu _,fun _ _ _=> rfl⟩ h.cur.drew
theorem Py.set (h:Py b lo B v l vD L w g cs W) (j:Nat) (u:Value):Py b lo B v l vD L w g (cs.setIfInBounds j u) (W.setCell ⟨g,j,none⟩ u):=
 have h1:=h.hb
 have h2:=h.hg
 have h3:=h.hB
 ⟨h.cur.set (by omega) u,h.st.set (.inr (by omega)) u,h.go.set (by omega) u,h.dbox.other (by omega) u,h.res.other (by omega) u,h.box.set j u,h.hb,h.hlo,h.hg,h.hB⟩
theorem Py.fin (h:Py b lo B v l vD L w g cs W) (a0 a1 a2 a3 a4 a5 a6 a7:Value):
  ∃Wf,Wf=(((((((W.setCell ⟨w.heap.size+1,0,none⟩ a0).setCell ⟨w.heap.size+1,1,none⟩ a1).setCell ⟨w.heap.size+1,2,none⟩ a2).setCell ⟨w.heap.size+1,3,none⟩ a3).setCell ⟨w.heap.size+1,4,none⟩ a4).setCell ⟨w.heap.size+1,5,none⟩ a5).setCell ⟨w.heap.size+1,6,none⟩ a6).setCell ⟨w.heap.size+1,7,none⟩ a7∧
   Zo Wf (w.heap.size+1) 50 #[a0,a1,a2,a3,a4,a5,a6,a7]∧Qx b w Wf∧Qo b v l Wf∧Wf.heap.size=W.heap.size∧∀k,k≠w.heap.size+1→Wf.heap[k]?=W.heap[k]?:=by
 have h1:=h.hb
 refine ⟨_,rfl,?_,?_,?_,by simp [World.setCell],fun k hk=> ?_⟩
 ·have:=(((((((h.res.set 0 a0).set 1 a1).set 2 a2).set 3 a3).set 4 a4).set 5 a5).set 6 a6).set 7 a7
  simpa using this
 ·repeat (refine Qx.set ?_ (by omega) _)
  exact h.go
 ·repeat (refine Qo.set ?_ (by omega) _)
  exact h.cur
 ·repeat (rw [Below.heap_setCell _ _ _ k hk])
end
def Pk (b:Nat) (v:Value) (l:List UInt8) (L:List RM) (w:World) (e:Ending) (w':World):Prop:=
 ∃r:RM,e= .returned (Ja r)∧DrR (L.map RM.d) r.d∧Zy w.heap.size w'.heap.size (fun w''=> r.rd w'' w'.heap.size) w'∧Qx b w w'∧Qo b v l w'
theorem Rx {w:World} {g n:Nat} {T:TypeId} {xs:List Value} (h:Zo w g T xs.toArray) (hn:xs.length=n) (hm:n≤maxLen) {B:Nat} (hB:g < B):Sl w B 1 (.slice (some ⟨g,0,none⟩) n n) n xs:=by
 refine ⟨by omega,_,_,rfl,Fu _,hm,fun _=> ⟨g,0,rfl,hB,fun j u hu=> ?_⟩⟩
 rw [Nat.zero_add]
 exact h.cell j (by simpa using hu)
theorem own_set {w:World} {base:Nat} {E:TypeId} {size n:Nat} {v:Value} {xs:List Value} (h:w.ownsRow base E size v n xs) {g j:Nat} (hg:g < base) (u:Value):(w.setCell ⟨g,j,none⟩ u).ownsRow base E size v n xs:=
 Ql h fun q hq=> Below.heap_setCell _ _ _ q (by have:=(h.lt q hq).1;show q≠g;omega)
section
variable {P:Program} {ops:Array Oper} {Q:Exit→Act→World→Prop} {md:Region.Mode} {S:World→Prop} {m:Nat}
def Ux (P:Program) (md:Region.Mode) (ops:Array Oper) (Q:Exit→Act→World→Prop) (S:World→Prop) (m:Nat):Nat→Array Bool→Act→World→Prop
 |0,listed,a,w=> Region.ready md ops listed= []∧Q .normal a w
 |fuel+1,listed,a,w=>
  (Region.ready md ops listed= []→Q .normal a w)∧
  ∀i∈Region.ready md ops listed,wpOp P ops Q i (fun a' w'=> (i≠m→S w')∧Ux P md ops Q S m fuel (listed.setIfInBounds i true) a' w') a w
theorem Kl:∀(fuel:Nat) (listed:Array Bool) (a:Act) (w:World),Ux P md ops Q S m fuel listed a w→wpAny P md ops Q fuel listed a w
 |0,_,_,_,h=> h
 |fuel+1,_,_,_,h=> ⟨h.1,fun i hi=> wpOp_mono (fun a' w' h'=> Kl fuel _ a' w' h'.2) (h.2 i hi)⟩
theorem Fa {i:Nat} {oi om:Oper} {v:Value} (hi:ops[i]?=some oi) (hm:ops[m]?=some om) (hw:∃e∈om.after,Region.binds md e=true∧e.on=i) (hsel:∀(j:Nat) (o:Oper) cs b,ops[j]?=some o→o.op≠ .select cs b)
  (hQ:∀c a w,Q (.panic c) (a.put oi.dst v) w→Q (.panic c) a w):
  ∀(fuel:Nat) (listed:Array Bool) (a:Act) (w:World),
   (∀j oj,ops[j]?=some oj→j≠i→listed.getD j true=false→(∀e∈oj.after,Region.binds md e=true→e.on≠i)→oi.apart ops oj=true)→
   i∈Region.ready md ops listed→YieldsIf P ops S oi v a→S w→
   Ux P md ops Q S m fuel (listed.setIfInBounds i true) (a.put oi.dst v) w→Ux P md ops Q S m (fuel+1) listed a w:=by
 intro fuel
 induction fuel with
 |zero=>
  intro listed a w _ hr hy hS H
  refine ⟨fun h=> (by rw [h] at hr;cases hr),fun j hj=> ?_⟩
  by_cases hji:j=i
  ·subst hji;exact hy.wpOp hi hS ⟨fun _=> hS,H⟩
  ·have:=ready_mono hj hji
   rw [H.1] at this
   cases this
 |succ fuel ih=>
  intro listed a w hfree hr hy hS H
  refine ⟨fun h=> (by rw [h] at hr;cases hr),fun j hj=> ?_⟩
  by_cases hji:j=i
  ·subst hji;exact hy.wpOp hi hS ⟨fun _=> hS,H⟩
  ·have h1:=H.2 j (ready_mono hj hji)
   obtain ⟨hjun,oj,hoj,hall⟩:=mem_ready.1 hj
   have hnot:∀e∈oj.after,Region.binds md e=true→e.on≠i:=fun e he hb heq=> by
    have h1:=hall e he hb
    have h0:=(mem_ready.1 hr).1
    rw [heq] at h1
    rcases Nat.lt_or_ge i listed.size with h'|h'
    ·simp [h'] at h0 h1;rw [h0] at h1;cases h1
    ·simp [Array.getElem?_eq_none h'] at h1
   have hjm:j≠m:=fun e=> by
    subst e
    rw [hm] at hoj
    cases hoj
    obtain ⟨e,he,hb,heq⟩:=hw
    exact hnot e he hb heq
   have h2:=wpOp_putIf hoj (hfree j oj hoj hji hjun hnot) (fun cs b=> hsel i oi cs b hi) (fun cs b=> hsel j oj cs b hoj) hQ hy h1
   have hfree':∀k ok,ops[k]?=some ok→k≠i→(listed.setIfInBounds j true).getD k true=false→
     (∀e∈ok.after,Region.binds md e=true→e.on≠i)→oi.apart ops ok=true:=fun k ok hk hki hun hno=> by
    refine hfree k ok hk hki ?_ hno
    by_cases hjk:j=k
    ·subst hjk;exact hjun
    ·rw [getD_set_ne true hjk] at hun;exact hun
   refine wpOp_mono (fun a' w' h3=> ⟨h3.2.1,ih (listed.setIfInBounds j true) a' w' hfree' (ready_mono hr (Ne.symm hji)) h3.1 (h3.2.1 hjm) ?_⟩) h2
   rw [Array.setIfInBounds_comm _ _ hji]
   exact h3.2.2
variable {oi:Oper} {d:Option Tmp} {fuel:Nat} {listed:Array Bool} {a:Act} {w:World}
def waitsFor (md:Region.Mode) (ops:Array Oper) (m i:Nat):Bool:=match ops[m]? with|none=> false|some o=> o.after.any fun e=> Region.binds md e && e.on==i
theorem Zt (i:Nat) (d:Option Tmp) (hS:S w) (v:Value)
  (h:Ux P md ops Q S m fuel (listed.setIfInBounds i true) (a.put d v) w)
  (hi:Uu ops.toList i=some oi:=by rfl) (hd:oi.dst=d:=by rfl) (hs:Region.noSelect ops=true:=by kernel_rfl) (hf:Region.free md ops listed i=true:=by kernel_rfl) (hr:(Region.ready md ops listed).contains i=true:=by kernel_rfl)
  (hm:waitsFor md ops m i=true:=by kernel_rfl)
  (hQ:∀c v a w,Q (.panic c) (a.put d v) w→Q (.panic c) a w:=by exact fun _ _ _ _ h=> h) (hw:Region.wanted oi (yielded ops a.tmps)=true:=by rfl)
  (hy:∀w,S w→(execOp a.eval oi).run P w= .ok (.value v) w:=by intro w9 hSw;(try dsimp only at hSw);go_simp;try with_reducible rfl):Ux P md ops Q S m (fuel+1) listed a w:=by
 subst hd
 unfold waitsFor at hm
 cases ho:ops[m]? with
 |none=> rw [ho] at hm;cases hm
 |some om=>
  rw [ho] at hm
  simp only [Array.any_eq_true',Bool.and_eq_true,beq_iff_eq] at hm
  exact Fa (Vi hi) ho (by obtain ⟨e,he,hb,hon⟩:=hm;exact ⟨e,he,hb,hon⟩) (Region.noSelect_spec hs) (fun c a w=> hQ c v a w) fuel listed a w (Region.free_spec (Vi hi) hf) (by simpa using hr) (.inl ⟨hw,hy⟩) hS h
theorem Qw (i:Nat)
  (h:∀K':Act→World→Prop,Shut (∀a w,S w→(S w→Ux P md ops Q S m fuel (listed.setIfInBounds i true) a w)→K' a w)→Oper.wp P oi a w K' Q)
  (hr:Region.ready md ops listed= [i]:=by kernel_rfl) (hi:Uu ops.toList i=some oi:=by rfl) (hw:Region.wanted oi (yielded ops a.tmps)=true:=by rfl):Ux P md ops Q S m (fuel+1) listed a w:=by
 refine ⟨fun h0=> (by rw [hr] at h0;cases h0),fun j hj=> ?_⟩
 rw [hr,List.mem_singleton] at hj
 subst hj
 refine wpOp_step (Vi hi) fun K' hK=> ?_
 rw [if_pos hw]
 exact h K' (fun a w hS hW=> hK a w ⟨fun _=> hS,hW hS⟩)
theorem Uz (h:∀K':Act→World→Prop,Shut (∀a w,Ux P md ops Q S m fuel (listed.setIfInBounds m true) a w→K' a w)→Oper.wp P oi a w K' Q)
  (hr:Region.ready md ops listed= [m]:=by kernel_rfl) (hi:Uu ops.toList m=some oi:=by rfl) (hw:Region.wanted oi (yielded ops a.tmps)=true:=by rfl):Ux P md ops Q S m (fuel+1) listed a w:=by
 refine ⟨fun h0=> (by rw [hr] at h0;cases h0),fun j hj=> ?_⟩
 rw [hr,List.mem_singleton] at hj
 subst hj
 refine wpOp_step (Vi hi) fun K' hK=> ?_
 rw [if_pos hw]
 exact h K' (fun a w hW=> hK a w ⟨fun h=> absurd rfl h,hW⟩)
theorem Js {listed:Array Bool} {a:Act} {w:World} (hr:Region.ready md ops listed= []) (h:Q .normal a w):
  ∀fuel,Ux P md ops Q S m fuel listed a w
 |0=> ⟨hr,h⟩
 | _+1=> ⟨fun _=> h,by rw [hr];simp⟩
end
theorem Qr {P:Program} {ops:Array Oper} {Q:Exit→Act→World→Prop} {S:World→Prop} (m:Nat) {id:Nat} {a:Act} {w:World} (hm:P.follows .mixedOrders=true) (hS:S w.drew)
  (h:S w.drew→Ux P .any ops Q S m ops.size (Array.replicate ops.size false) a w.drew):(Code.region id ops true).wp P Q a w:=
 wp_region_any hm (Kl _ _ _ _ (h hS))
end Go.Proofs.YteldgdelmaeokaaGreatDoor
