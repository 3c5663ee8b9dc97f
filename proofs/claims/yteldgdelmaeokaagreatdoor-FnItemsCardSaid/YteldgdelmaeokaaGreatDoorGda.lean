/- Out of Cur, Cur1, CurW, DrawP, DrD, DrW, DrC, DrI, MkS, RgX: the walks and plain laws that the claim needs. No condition but those that each theorem names. -/
import Derived.Test.YteldgdelmaeokaaGreatDoorGa
import Derived.Test.YteldgdelmaeokaaGreatDoorGb
import Derived.WalkSpells
import Derived.WalkLawsBesides
import Derived.BigQuiet
import Derived.Deep.QuietTactic
import Derived.Deep.RegionHeld3
import Derived.RangeFuncBox
import Derived.Test.YteldgdelmaeokaaGreatDoorGl
import Derived.Test.YteldgdelmaeokaaGreatDoorGf
set_option linter.unusedSimpArgs false
set_option linter.unusedVariables false
set_option maxHeartbeats 1000000
set_option maxRecDepth 100000
namespace Go.Proofs.YteldgdelmaeokaaGreatDoor
open Go.Proofs.Tryz Go.RowKit
def Xy (w:World) (b:Nat) (v:Value) (n:Nat):Prop:=
 w.cell? ⟨b,0,none⟩=some v∧(∃i:Nat,i≤n∧w.cell? ⟨b,1,none⟩=some (.int .i64 i))∧(∃h:Int,w.cell? ⟨b,2,none⟩=some (.int .i64 h))∧w.frozen? ⟨b,1,none⟩=false∧w.frozen? ⟨b,2,none⟩=false
def Xj (b:Nat) (w w':World):Prop:=w.grownBy w' (some b)∧w'.heap.size=w.heap.size
theorem Mp {w:World} {b o b' o':Nat} {u:Value} (h:¬(b=b'∧o=o')):(w.setCell ⟨b,o,none⟩ u).cell? ⟨b',o',none⟩=w.cell? ⟨b',o',none⟩:=
 World.cell?_setCell_other _ _ _ _ (fun e=> h (by injection e with h1 h2;exact ⟨h1,h2⟩))
theorem Xy.set2 {w:World} {b n:Nat} {v:Value} {X:Int} (h:Xy w b v n):Xy (w.setCell ⟨b,2,none⟩ (.int .i64 X)) b v n:=by
 obtain ⟨c0,⟨i,hi,c1⟩,⟨hh,c2⟩,f1,f2⟩:=h
 exact ⟨(Mp (by omega)).trans c0,⟨i,hi,(Mp (by omega)).trans c1⟩,⟨X,World.cell?_setCell_same _ _ _ c2⟩,(World.frozen?_setCell _ _ _ _).trans f1,(World.frozen?_setCell _ _ _ _).trans f2⟩
theorem Xy.set1 {w:World} {b n:Nat} {v:Value} {j:Nat} (h:Xy w b v n) (hj:j≤n):Xy (w.setCell ⟨b,1,none⟩ (.int .i64 j)) b v n:=by
 obtain ⟨c0,⟨i,hi,c1⟩,⟨hh,c2⟩,f1,f2⟩:=h
 exact ⟨(Mp (by omega)).trans c0,⟨j,hj,World.cell?_setCell_same _ _ _ c1⟩,⟨hh,(Mp (by omega)).trans c2⟩,(World.frozen?_setCell _ _ _ _).trans f1,(World.frozen?_setCell _ _ _ _).trans f2⟩
theorem Xy.drewN {w:World} {b n:Nat} {v:Value} (h:Xy w b v n) (k:Nat):Xy (w.drewN k) b v n:=h
theorem Xj.refl (b:Nat) (w:World):Xj b w w:=⟨World.grownBy.refl _ _,rfl⟩
theorem Xj.set {b o:Nat} {w w':World} {u:Value} (h:Xj b w w'):Xj b w (w'.setCell ⟨b,o,none⟩ u):=
 ⟨Ui h.1 (Yb w' b o u),by rw [←h.2];simp [World.setCell]⟩
theorem Xj.drewN {b:Nat} {w w':World} (h:Xj b w w') (k:Nat):Xj b w (w'.drewN k):=⟨⟨h.1.os,h.1.tape,h.1.output,h.1.size,h.1.block⟩,h.2⟩
theorem Xj.trans {b:Nat} {a w w':World} (h:Xj b a w) (k:Xj b w w'):Xj b a w':=⟨Ui h.1 k.1,k.2.trans h.2⟩
theorem and_255 (E:Int):0≤bits .and .i64 E 255∧bits .and .i64 E 255≤255:=by
 have h2:(BitVec.ofInt 64 (255:Int)).toNat=255:=by decide
 have hx:(BitVec.ofInt 64 E &&& BitVec.ofInt 64 255).toNat≤255:=by rw [BitVec.toNat_and,h2];exact Nat.and_le_right
 show 0≤IntKind.i64.wrap ((BitVec.ofInt 64 E &&& BitVec.ofInt 64 255).toNat:Int)∧IntKind.i64.wrap ((BitVec.ofInt 64 E &&& BitVec.ofInt 64 255).toNat:Int)≤255
 rw [IntWalk.i64_in _ (by omega)];omega
theorem Tn (b B:Nat) (v:Value) (l:List UInt8) (w:World) (h:Xq w B v l) (hB:B≤b) (hc:Xy w b v l.length):
  Calls prog 56 #[.pointer (some ⟨b,0,none⟩)] w fun e w'=> (∃x:Int,e= .returned (.int .i64 x)∧0≤x∧x≤255)∧Xj b w w'∧Xy w' b v l.length:=by
 obtain ⟨A,c,rfl,hc1,hcm,hcell⟩:=h.open_
 unfold maxLen at hcm
 have HC:=Fd hc
 obtain ⟨c0,⟨i,hi,c1⟩,⟨hh,c2⟩,f1,f2⟩:=hc
 go_enter func56,ntmps56
 go_wp2
 generalize wrap64 (wrap64 (hh*6364136223846793005)+1442695040888963407)=X
 have g2:(w.setCell ⟨b,2,none⟩ (.int .i64 X)).cell? ⟨b,2,none⟩=some (.int .i64 X):=by simp [go_sem,c2]
 have g1:(w.setCell ⟨b,2,none⟩ (.int .i64 X)).cell? ⟨b,1,none⟩=some (.int .i64 i):=by simp [go_sem,c1]
 have g0:(w.setCell ⟨b,2,none⟩ (.int .i64 X)).cell? ⟨b,0,none⟩=some (.slice A l.length c):=by simp [go_sem,c0]
 go_quiet (fail)
 by_cases hlt:i < l.length
 ·obtain ⟨bb,off,rfl,hbb,hc3⟩:=hcell i hlt
  have g3:(w.setCell ⟨b,2,none⟩ (.int .i64 X)).cell? ⟨bb,off+i,none⟩=some (.int .u8 l[i].toNat):=by
   rw [←hc3];exact Mp (by omega)
  clear hcell
  go_wp2
  go_quiet (fail)
  go_wp2
  go_quiet (fail)
  go_wp2
  go_ret
  exact ⟨⟨_,rfl,and_255 _⟩, .set (.drewN (.set (.refl _ _)) _),Xy.set1 (.drewN HC.out.set2 _) (j:=i+1) (by omega)⟩
 ·clear hcell
  go_wp2
  go_quiet (fail)
  go_wp2
  go_ret
  exact ⟨⟨_,rfl,and_255 _⟩, .drewN (.drewN (.set (.refl _ _)) _) _, .drewN (.drewN HC.out.set2 _) _⟩
theorem Xq.step {b B:Nat} {v:Value} {l:List UInt8} {w w':World} (h:Xq w B v l) (hs:Xj b w w') (hB:B≤b) (hb:b < w.heap.size):Xq w' B v l:=
 Sl.below h ((Below.refl B w).grown hs.1 (by omega) (fun k e=> by injection e;omega))
theorem Xy.lt {w:World} {b n:Nat} {v:Value} (h:Xy w b v n):b < w.heap.size:=World.block_lt_of_cell? w ⟨b,0,none⟩ h.1
def Drawn (b:Nat) (v:Value) (n:Nat) (w:World) (lo hi:Int) (e:Ending) (w':World):Prop:=(∃x:Int,e= .returned (.int .i64 x)∧lo≤x∧x≤hi)∧Xj b w w'∧Xy w' b v n
theorem l1Below_any (b B:Nat) (v:Value) (l:List UInt8) (m:Int) (w:World) (h:Xq w B v l) (hB:B≤b) (hc:Xy w b v l.length) (hm:0 < m) (hm2:m≤16777216):
  Calls prog 23 #[.pointer (some ⟨b,0,none⟩), .int .i64 m] w (Drawn b v l.length w 0 (m - 1)):=by
 have H:=Fd h
 have HC:=Fd hc
 have hlt:=hc.lt
 clear h hc
 have hz:(m==0)=false:=by rw [beq_eq_false_iff_ne];omega
 by_cases h2:m≤256
 ·go_enter func23,ntmps23
  go_wp2_with (go_at_call 56;refine (Tn b B v l _ H.out hB HC.out).mono ?_;rintro e w1 ⟨⟨x,rfl,hx0,hx1⟩,hs,hcu⟩;have hmod:=Fd (Int.tmod_eq_emod_of_nonneg (b:=m) hx0);have HB1:=Fd (Int.emod_nonneg x (show m≠0 by omega));have HB2:=Fd (Int.emod_lt_of_pos x hm))
  go_ret
  exact ⟨⟨_,rfl,by have:=hmod.out;have:=HB1.out;omega,by have:=hmod.out;have:=HB2.out;omega⟩,hs,hcu⟩
 ·go_enter func23,ntmps23
  go_wp2_with fail
  refine (Tn b B v l _ H.out hB HC.out).mono ?_
  rintro e w1 ⟨⟨x,rfl,hx0,hx1⟩,hs,hcu⟩
  have H1:=Fd (H.out.step hs hB hlt)
  have hcu:=Fd hcu
  have hs:=Fd hs
  go_wp2_with fail
  refine (Tn b B v l _ H1.out hB hcu.out).mono ?_
  rintro e w2 ⟨⟨y,rfl,hy0,hy1⟩,hs2,hcu2⟩
  have hs2:=Fd (hs.out.trans hs2)
  have H2:=Fd (H.out.step hs2.out hB hlt)
  have hcu2:=Fd hcu2
  go_wp2_with fail
  refine (Tn b B v l _ H2.out hB hcu2.out).mono ?_
  rintro e w3 ⟨⟨z,rfl,hz0,hz1⟩,hs3,hcu3⟩
  have hs3:=Fd (hs2.out.trans hs3)
  have hcu3:=Fd hcu3
  have hmod:=Fd (Int.tmod_eq_emod_of_nonneg (a:=x*65536+y*256+z) (b:=m) (by omega))
  have HB1:=Fd (Int.emod_nonneg (x*65536+y*256+z) (show m≠0 by omega))
  have HB2:=Fd (Int.emod_lt_of_pos (x*65536+y*256+z) hm)
  go_wp2
  go_ret
  exact ⟨⟨_,rfl,by have:=hmod.out;have:=HB1.out;omega,by have:=hmod.out;have:=HB2.out;omega⟩,hs3.out,hcu3.out⟩
theorem l1New_any (v:Value) (l:List UInt8) (B:Nat) (w:World) (h:Xq w B v l) (hl:l.length≤1048576):
  Calls prog 19 #[v] w fun e w'=> e= .returned (.pointer (some ⟨w.heap.size,0,none⟩))∧(∃x:Int,w'=w.alloc (.cells #[v, .int .i64 0, .int .i64 x] 72)):=by
 obtain ⟨A,c,rfl,hc1,hcm,hcell⟩:=h.open_
 unfold maxLen at hcm
 clear h
 go_enter func19,ntmps19
 go_wp2
 go_loop [3,4] (fun h i=> ∃k:Nat,k≤l.length∧k≤4000∧i= .int .i64 k∧∃x:Int,h= .int .i64 x) (fun _ i=> l.length - (intOf i).toNat)
 case atStart=> exact ⟨0,Nat.zero_le _,Nat.zero_le _,rfl,_,rfl⟩
 case round=>
  obtain ⟨k,hk,hk2,rfl,x,rfl⟩:=hrel
  by_cases hlt:k < l.length
  ·by_cases hlt2:k < 4000
   ·obtain ⟨bb,off,rfl,hbb,hc3⟩:=hcell k hlt
    clear hcell
    go_wp2
    go_round
    case rel=> exact ⟨k+1,by omega,by omega,by go_num,_,rfl⟩
    case measure=> simp [intOf];omega
   ·clear hcell
    go_wp2
    go_ret
    exact ⟨rfl,x,rfl⟩
  ·clear hcell
   go_wp2
   go_ret
   exact ⟨rfl,x,rfl⟩
theorem Xy.grown {w w':World} {b n:Nat} {v:Value} (h:Xy w b v n) (hb:Below (b+1) w w'):Xy w' b v n:=by
 obtain ⟨c0,⟨i,hi,c1⟩,⟨hh,c2⟩,f1,f2⟩:=h
 exact ⟨(hb.cell (p:=⟨b,0,none⟩) (Nat.lt_succ_self b)).trans c0,⟨i,hi,(hb.cell (p:=⟨b,1,none⟩) (Nat.lt_succ_self b)).trans c1⟩,⟨hh,(hb.cell (p:=⟨b,2,none⟩) (Nat.lt_succ_self b)).trans c2⟩,
  (hb.frozen (p:=⟨b,1,none⟩) (Nat.lt_succ_self b)).trans f1,(hb.frozen (p:=⟨b,2,none⟩) (Nat.lt_succ_self b)).trans f2⟩
theorem big_any (v:Value) (l:List UInt8) (B:Nat) (w:World) (h:Xq w B v l):
  Calls prog 5 #[v] w fun e w'=> e= .returned (.bool (decide (1048576 < (l.length:Int))))∧w=w':=by
 obtain ⟨A,c,rfl,hc,hm,hcell⟩:=h.open_
 unfold maxLen at hm
 clear h hcell
 go_enter func5,ntmps5
 go_wp2
 go_ret
 exact ⟨rfl,rfl⟩
theorem cur_new {w:World} {v:Value} {x:Int} {t:TypeId} {n:Nat}:Xy (w.alloc (.cells #[v, .int .i64 0, .int .i64 x] t)) w.heap.size v n:=
 ⟨by simp [go_sem],⟨0,Nat.zero_le _,by simp [go_sem]⟩,⟨x,by simp [go_sem]⟩,by simp [go_sem],by simp [go_sem]⟩
structure Qm (b:Nat) (v:Value) (l:List UInt8) (w:World):Prop where
 sl:Xq w b v l
 at_:Xy w b v l.length
abbrev Qw (b:Nat) (w w':World):Prop:=w.grownBy w' (some b)
theorem Qm.lt {b:Nat} {v:Value} {l:List UInt8} {w:World} (h:Qm b v l w):b < w.heap.size:=h.at_.lt
theorem Qw.out {b:Nat} {w w':World} (h:Qw b w w'):Xm b (b+1) w w':=Xm.of_grown h (fun k e=> by cases e;omega)
theorem Qw.below {b B:Nat} {a w w':World} (h:Qw b w w') (hb:Below B a w) (hB:B≤w.heap.size) (hbB:B≤b):Below B a w':=hb.grown h hB (fun k e=> by cases e;exact hbB)
theorem Qw.of_below {b:Nat} {w w':World} (h:Below w.heap.size w w'):Qw b w w':=⟨h.os,h.tape,h.output,h.size,fun k hk _=> h.block k hk⟩
theorem Qw.trans {b:Nat} {a w w':World} (h:Qw b a w) (k:Qw b w w'):Qw b a w':=Ui h k
theorem Qm.step {b:Nat} {v:Value} {l:List UInt8} {w w':World} (h:Qm b v l w) (hs:Qw b w w') (hc:Xy w' b v l.length):Qm b v l w':=
 ⟨Sl.below h.sl ((Below.refl b w).grown hs (by have:=h.lt;omega) (fun k e=> by cases e;exact Nat.le_refl _)),hc⟩
theorem Qm.below {b:Nat} {v:Value} {l:List UInt8} {w w':World} (h:Qm b v l w) (hb:Below w.heap.size w w'):Qm b v l w':=
 ⟨Sl.below h.sl (hb.mono (by have:=h.lt;omega)),h.at_.grown (hb.mono h.lt)⟩
theorem Qm.alloc {b:Nat} {v:Value} {l:List UInt8} {w:World} (h:Qm b v l w) (o:Obj):Qm b v l (w.alloc o):=h.below ((Below.refl _ _).alloc (Nat.le_refl _) o)
theorem Qw.alloc {b:Nat} {a w:World} (h:Qw b a w) (o:Obj):Qw b a (w.alloc o):=h.trans (Qw.of_below ((Below.refl _ _).alloc (Nat.le_refl _) o))
theorem Qn (b B:Nat) (v:Value) (l:List UInt8) (m:Int) (w:World) (h:Qm b v l w) (hm:0 < m) (hm2:m≤16777216):
  Calls prog 23 #[.pointer (some ⟨b,0,none⟩), .int .i64 m] w fun e w'=> (∃x:Int,e= .returned (.int .i64 x)∧0≤x∧x < m)∧Qw b w w'∧w'.heap.size=w.heap.size∧Qm b v l w':=by
 refine (l1Below_any b b v l m w h.sl (Nat.le_refl _) h.at_ hm hm2).mono ?_
 rintro e w' ⟨⟨x,he,h0,h1⟩,hs,hc⟩
 exact ⟨⟨x,he,h0,by omega⟩,hs.1,hs.2,h.step hs.1 hc⟩
theorem Uc (b B:Nat) (v:Value) (l:List UInt8) (m:Int) (w:World) (h:Qm b v l w) (hm:0 < m) (hm2:m≤16777216):
  Calls prog 21 #[.pointer (some ⟨b,0,none⟩), .int .i64 m] w fun e w'=> (∃x:Bool,e= .returned (.bool x))∧Qw b w w'∧w'.heap.size=w.heap.size∧Qm b v l w':=by
 go_enter func21,ntmps21
 go_wp2_with fail
 refine (Qn b b v l m w h hm hm2).mono ?_
 rintro e w1 ⟨⟨x,rfl,_,_⟩,hs,hz,hc⟩
 have H:=Fd (And.intro hs (And.intro hz hc))
 clear hs hz hc h
 go_wp2
 go_ret
 exact ⟨⟨_,rfl⟩,H.out⟩
theorem Xu {w:World} (xs:List ByteArray) (cs:Array Value) (hcs:cs=(xs.map Value.string).toArray) (g n:Nat) (hg:g=w.heap.size) (hn:n=xs.length) (hx:xs.length≤maxLen):
  Gj xs g (g+1) (w.alloc (.cells cs 9)) (.slice (some ⟨g,0,none⟩) n n):=by
 subst hg hn hcs
 refine ⟨⟨by simp,_,_,rfl,Nat.le_refl _,hx,fun _=> ⟨_,_,rfl,Nat.lt_succ_self _,fun j u hu=> ?_⟩⟩,fun ad n c e=> by cases e;exact Nat.le_refl _,by simp⟩
 simp only [Nat.zero_add]
 have:=World.alloc_heap_new w (.cells (xs.map Value.string).toArray 9)
 simp only [World.cell?,this]
 rw [←hu]
 simp
theorem Yj (b lo hi:Nat) (v u:Value) (l:List UInt8) (xs:List ByteArray) (w:World) (h:Qm b v l w) (hu:Gj xs lo hi w u) (hlo:b < lo) (h1:1≤xs.length) (h2:xs.length≤256):
  Calls prog 69 #[.pointer (some ⟨b,0,none⟩),u] w fun e w'=> (∃x∈xs,e= .returned (.string x))∧Qw b w w'∧w'.heap.size=w.heap.size∧Qm b v l w':=by
 obtain ⟨A,c,rfl,hc,hm,hcell⟩:=(show Xx w hi u xs from hu.1).one
 unfold maxLen at hm
 go_enter func69,ntmps69
 go_wp2_with fail
 refine (Qn b b v l xs.length w h (by omega) (by omega)).mono ?_
 rintro e w1 ⟨⟨x,rfl,hx0,hx1⟩,hs,hz,hcw⟩
 obtain ⟨k,rfl⟩:=Int.eq_ofNat_of_zero_le hx0
 have hk:k < xs.length:=by omega
 have hcell2:=(show Xx w1 hi _ xs from (hu.keep hs.out (by omega)).1).one
 obtain ⟨A',c',e',_,_,hcell2⟩:=hcell2
 cases e'
 obtain ⟨bb,off,rfl,hbb,hd⟩:=hcell2 k hk
 have hmem:xs[k]∈xs:=List.getElem_mem hk
 generalize xs[k]=y at*
 have H:=Fd (And.intro hmem (And.intro hs (And.intro hz hcw)))
 clear hcell hcell2 hu h hs hz hcw hmem
 go_wp2
 go_ret
 exact ⟨⟨y,H.out.1,rfl⟩,H.out.2⟩
def dg (n:Nat):UInt8:=UInt8.ofNat (48+n)
theorem Yc (n:Nat) (h:n < 10):Jv n= [dg n]:=by
 by_cases h0:n=0
 ·subst h0;rfl
 ·unfold Jv
  rw [if_neg (by omega),if_neg (by omega),Int.natAbs_natCast,Vb h0,Nat.div_eq_of_lt h,Yn,Nat.mod_eq_of_lt h]
  rfl
theorem Ii {s:ByteArray}:∀{n:Nat},(∀k,k < n→Tk s k=true)→Vt s n=true
 |0,_=> rfl
 |n+1,h=> by rw [Vt,Ii (fun k hk=> h k (by omega)),h n (by omega)];rfl
structure Oe (s:ByteArray) (n:Nat):Prop where
 nm:Jb s=true
 last:s.data.toList.getLast?=some (dg n)
 size:s.size≤5
theorem Ph {x:ByteArray} {n:Nat} (hl:∀c∈x.data.toList,Va c=true) (h1:1≤x.size) (h2:x.size≤4) (hn:n < 10):Oe (x++Uv (Jv n)) n:=by
 rw [Yc n hn]
 have hd:(x++Uv [dg n]).data.toList=x.data.toList++ [dg n]:=by rw [ByteArray.data_append];simp [Uv]
 have hs:(x++Uv [dg n]).size=x.size+1:=by rw [ByteArray.size_append];rfl
 have hs1:(Uv [dg n]).size=1:=rfl
 have hx:x.size=x.data.toList.length:=Lib.size_eq x
 refine ⟨?_,by rw [hd];simp,by omega⟩
 unfold Jb
 rw [Bool.and_eq_true,Bool.and_eq_true]
 refine ⟨Ii fun k hk=> ?_,by simp;omega,by simp;omega⟩
 unfold Tk
 rw [hd]
 by_cases hk2:k < x.data.toList.length
 ·rw [List.getElem?_append_left hk2,List.getElem?_eq_getElem hk2]
  simp only [hl _ (List.getElem_mem hk2),Bool.true_or]
 ·have e:k=x.data.toList.length:=by omega
  subst e
  rw [List.getElem?_append_right (Nat.le_refl _),Nat.sub_self]
  have h3:Yf (dg n)=true:=by
   rw [Py]
   unfold dg
   have:(UInt8.ofNat (48+n)).toNat=48+n:=by simp;omega
   omega
  have h4:decide (x.data.toList.length≠0)=true:=decide_eq_true (by omega)
  show (Va (dg n)||(Yf (dg n) && decide (x.data.toList.length≠0)))=true
  rw [h3,h4]
  simp
theorem dg_inj {n m:Nat} (hn:n < 10) (hm:m < 10) (h:dg n=dg m):n=m:=by
 have:=congrArg UInt8.toNat h
 unfold dg at this
 simp at this
 omega
theorem Oe.ne {s t:ByteArray} {n m:Nat} (h:Oe s n) (h':Oe t m) (hn:n < 10) (hm:m < 10) (hne:n≠m):(s.toList==t.toList)=false:=by
 rw [Lib.toList_data,Lib.toList_data,beq_eq_false_iff_ne]
 intro e
 have h1:=h.last
 rw [e,h'.last] at h1
 exact hne (dg_inj hm hn (Option.some.inj h1)).symm
def Tr:List ByteArray:= [⟨#[97]⟩,⟨#[105,116,101,109]⟩,⟨#[98]⟩,⟨#[104,101,97,100]⟩,⟨#[120]⟩]
def xsPq:List ByteArray:= [⟨#[112]⟩,⟨#[113]⟩,⟨#[114]⟩]
theorem Qo:∀x∈Tr,(∀c∈x.data.toList,Va c=true)∧1≤x.size∧x.size≤4:=by
 have:(Tr.all fun x=> x.data.toList.all Va && (decide (1≤x.size) && decide (x.size≤4)))=true:=by rfl
 intro x hx
 have:=List.all_eq_true.1 this x hx
 simp only [Bool.and_eq_true,decide_eq_true_eq,List.all_eq_true] at this
 exact ⟨this.1,this.2.1,this.2.2⟩
theorem Ow:∀x∈xsPq,(∀c∈x.data.toList,Va c=true)∧1≤x.size∧x.size≤1:=by
 have:(xsPq.all fun x=> x.data.toList.all Va && (decide (1≤x.size) && decide (x.size≤1)))=true:=by rfl
 intro x hx
 have:=List.all_eq_true.1 this x hx
 simp only [Bool.and_eq_true,decide_eq_true_eq,List.all_eq_true] at this
 exact ⟨this.1,this.2.1,this.2.2⟩
structure DrR (D:List Zk) (r:Zk):Prop where
 name:Oe r.name D.length
 kind:1≤r.kind∧r.kind≤10
 good:Zn D r=true
 little:Zw r=true
 kids:∀a∈r.kids,0≤a∧a < D.length
 lens:r.bytes.length≤3∧r.names.length≤3∧r.tags.length≤3∧r.kids.length≤4
 size:0≤r.size∧r.size≤4
 int:r.kind=1→r.size≤3
 nsz:∀s∈r.names,s.size≤5∧s.data.toList≠ [122,122]
 tags:∀a∈r.tags,0≤a∧a≤11
 first:r.kind≠1→0 < D.length
def Tb (D:List Zk):Prop:=∀k (hk:k < D.length),DrR (D.take k) D[k]
theorem Tb.nil:Tb []:=fun k hk=> absurd hk (by simp)
theorem Tb.snoc {D:List Zk} {r:Zk} (h:Tb D) (hr:DrR D r):Tb (D++ [r]):=by
 intro k hk
 rw [List.length_append,List.length_singleton] at hk
 by_cases e:k < D.length
 ·rw [List.take_append_of_le_length (by omega),List.getElem_append_left e]
  exact h k e
 ·have:k=D.length:=by omega
  subst this
  rw [List.take_append_of_le_length (Nat.le_refl _),List.take_length,List.getElem_append_right (Nat.le_refl _)]
  simpa using hr
theorem ruleAt_take {D:List Zk} {k:Nat} {i:Int} (h:i < k):Ye (D.take k) i=Ye D i:=by
 unfold Ye
 split
 ·rw [List.getElem?_take,if_pos (by omega)]
 ·rfl
theorem Gv {D:List Zk} {k:Nat} {i:Int} (h:i < k):Zp (D.take k) i=Zp D i:=by
 unfold Zp;rw [ruleAt_take h]
theorem kindR_congr {D D':List Zk} {r:Zk} (h:Zp D (Xn r 0)=Zp D' (Xn r 0)):Zn D r=Zn D' r:=by
 unfold Zn Ym
 rw [h]
theorem kid_lt {r:Zk} {n:Nat} (h:∀a∈r.kids,0≤a∧a < (n:Int)) (hn:0 < n) (j:Nat):0≤Xn r j∧Xn r j < n:=by
 by_cases hj:j < r.kids.length
 ·rw [Jk r j hj];exact h _ (List.getElem_mem hj)
 ·unfold Xn
  rw [List.getD,List.getElem?_eq_none (by omega)]
  simp only [Option.getD_none]
  omega
theorem Tb.good {D:List Zk} (h:Tb D) (hl:D.length≤9) (k:Nat) (hk:k < D.length):Xd D k D[k]=true:=by
 have hr:=h k hk
 have hlt:(D.take k).length=k:=by rw [List.length_take];omega
 unfold Xd
 simp only [Bool.and_eq_true]
 have hkind:Zn D D[k]=true:=by
  rw [←hr.good]
  by_cases h1:D[k].kind=1
  ·unfold Zn;rw [if_pos h1,if_pos h1]
  ·have h0:=hr.first h1
   rw [hlt] at h0
   have:=kid_lt hr.kids (by rw [hlt];exact h0) 0
   rw [hlt] at this
   exact (kindR_congr (Gv this.2)).symm
 refine ⟨(Yo _ _).2 fun j hj=> ?_,(Yo _ _).2 fun j hj=> ?_,hr.name.nm,hkind,hr.little⟩
 ·rw [Ol D _ j (by omega)]
  have hj':=h j (by omega)
  have e:(D.take j).length=j:=by rw [List.length_take];omega
  have n1:=hj'.name
  have n2:=hr.name
  rw [e] at n1
  rw [hlt] at n2
  rw [n1.ne n2 (by omega) (by omega) (by omega)]
  rfl
 ·rw [Mh _ _ _ hj]
  have:=hr.kids _ (List.getElem_mem hj)
  rw [hlt] at this
  exact Jo.2 (by omega)
theorem Tb.valid {D:List Zk} (h:Tb D) (h1:1≤D.length) (hl:D.length≤9):Jy D=true:=by
 unfold Jy
 rw [Bool.and_eq_true]
 exact ⟨(Yo _ _).2 fun k hk=> by rw [Pp D k hk];exact h.good hl k hk,Jo.2 (by omega)⟩
theorem total_bd (M:Nat):∀l:List ByteArray,(∀s∈l,s.size≤M)→Hs l≤l.length*M
 | [],_=> by simp [Hs]
 |s::l,h=> by
  have:=total_bd M l fun t ht=> h t (by simp [ht])
  have:=h s (by simp)
  rw [List.length_cons,Nat.succ_mul]
  simp only [Hs]
  omega
theorem DrR.small {D:List Zk} {r:Zk} (h:DrR D r):r.small 1048576:=by
 obtain ⟨l1,l2,l3,l4⟩:=h.lens
 have:=total_bd 5 r.names fun s hs=> (h.nsz s hs).1
 exact ⟨by have:=h.name.size;omega,by omega,by omega,by omega,by omega,by omega⟩
theorem DrR.ok {D:List Zk} {r:Zk} (h:DrR D r) (hD:D.length≤9):r.ok:=by
 have hz:=h.name.size
 have h1:=h.kind
 have h2:=h.size
 refine ⟨by unfold maxLen;omega,?_,?_,fun s hs=> ?_,fun a ha=> ?_,fun a ha=> ?_⟩
 ·unfold Qa;omega
 ·unfold Qa;omega
 ·have:=(h.nsz s hs).1;unfold maxLen;omega
 ·have:=h.tags a ha;unfold Qa;omega
 ·have:=h.kids a ha;unfold Qa;omega
theorem Tb.small {D:List Zk} (h:Tb D):∀r∈D,r.small 1048576:=fun r hr=> by
 obtain ⟨k,hk,rfl⟩:=List.getElem_of_mem hr
 exact (h k hk).small
theorem Tb.ok {D:List Zk} (h:Tb D) (hl:D.length≤9):∀r∈D,r.ok:=fun r hr=> by
 obtain ⟨k,hk,rfl⟩:=List.getElem_of_mem hr
 exact (h k hk).ok (by rw [List.length_take];omega)
theorem Tb.limit {D:List Zk} (h:Tb D) {k:Nat} (hk:k < D.length) (h1:D[k].kind=1):255≤Zp D k∧Zp D k≤16777215:=by
 have hr:=h k hk
 have hg:=hr.good
 have hi:=hr.int h1
 unfold Zn at hg
 rw [if_pos h1] at hg
 simp only [Bool.and_eq_true] at hg
 have hs:=Jo.1 hg.2.1
 unfold Zp Ye
 rw [if_pos (by omega),Int.toNat_natCast,List.getElem?_eq_getElem hk]
 show 255≤Ya D[k]∧Ya D[k]≤16777215
 unfold Ya
 rw [if_pos ⟨h1,hs.1,hs.2⟩]
 have h3:D[k].size=1∨D[k].size=2∨D[k].size=3:=by omega
 unfold Uy
 rcases h3 with e|e|e <;> rw [e] <;> decide
theorem Tb.head {D:List Zk} (h:Tb D) (h0:0 < D.length):D[0].kind=1:=by
 by_cases h1:D[0].kind=1
 ·exact h1
 ·have:=(h 0 h0).first h1
  rw [List.length_take] at this
  omega
section
variable {D:List Zk} {nm:ByteArray}
theorem dr_int {sz:Int} {lt:Bool} (hn:Oe nm D.length) (h1:1≤sz) (h2:sz≤3) (hl:lt=true→1 < sz):DrR D ⟨nm,1,sz,lt, [], [], [], []⟩:=by
 refine ⟨hn,by simp,?_,by simp [Zw],by simp,by simp,⟨by simp;omega,by simp;omega⟩,fun _=> h2,by simp,by simp,fun h=> absurd rfl h⟩
 have hi:Yv sz 1 4=true:=Jo.2 (by omega)
 cases lt with
 |false=> simp [Zn,Zg,hi]
 |true=> simp [Zn,Zg,hi,hl rfl]
theorem dr_const {b:List UInt8} (hn:Oe nm D.length) (h0:0 < D.length) (h1:1≤b.length) (h2:b.length≤3):DrR D ⟨nm,2,0,false,b, [], [], []⟩:=by
 refine ⟨hn,by simp,?_,by simp [Zw],by simp,by simp;omega,by simp,by simp,by simp,by simp,fun _=> h0⟩
 have hi:Yv b.length 1 16=true:=Jo.2 (by omega)
 simp [Zn,Zg,hi]
theorem dr_fixed {sz:Int} (hn:Oe nm D.length) (h0:0 < D.length) (h1:1≤sz) (h2:sz≤4):DrR D ⟨nm,3,sz,false, [], [], [], []⟩:=by
 refine ⟨hn,by simp,?_,by simp [Zw],by simp,by simp,⟨by simp;omega,by simp;omega⟩,by simp,by simp,by simp,fun _=> h0⟩
 have hi:Yv sz 1 64=true:=Jo.2 (by omega)
 simp [Zn,Zg,hi]
theorem dr_sized {i:Int} (hn:Oe nm D.length) (h1:0≤i) (h2:i < D.length) (h3:255≤Zp D i):DrR D ⟨nm,4,0,false, [], [], [], [i]⟩:=by
 refine ⟨hn,by simp,?_,by simp [Zw],by simp;omega,by simp,by simp,by simp,by simp,by simp,fun _=> by omega⟩
 have hi:0 < Zp D i:=by omega
 simp [Zn,Zg,Xn,hi]
theorem dr_array {i j:Int} (hn:Oe nm D.length) (h1:0≤i) (h2:i < D.length) (h3:255≤Zp D i) (h4:0≤j) (h5:j < D.length):DrR D ⟨nm,5,0,false, [], [], [], [i,j]⟩:=by
 refine ⟨hn,by simp,?_,by simp [Zw],by simp;omega,by simp,by simp,by simp,by simp,by simp,fun _=> by omega⟩
 have hi:0 < Zp D i:=by omega
 simp [Zn,Zg,Xn,hi]
theorem dr_opt {q j:Int} (hn:Oe nm D.length) (hq:q=8∨q=9) (h4:0≤j) (h5:j < D.length):DrR D ⟨nm,q,0,false, [], [], [], [j]⟩:=by
 refine ⟨hn,by simp;omega,?_,by simp [Zw],by simp;omega,by simp,by simp,by simp,by simp,by simp,fun _=> by omega⟩
 rcases hq with rfl|rfl <;> simp [Zn,Zg]
theorem dr_term {b:UInt8} (hn:Oe nm D.length) (h0:0 < D.length) (hb:b≠92):DrR D ⟨nm,10,0,false, [b], [], [], []⟩:=by
 refine ⟨hn,by simp,?_,by simp [Zw],by simp,by simp,by simp,by simp,by simp,by simp,fun _=> h0⟩
 simp [Zn,Zg,hb]
structure SeqI (n m:Nat) (names:List ByteArray) (kids:List Int):Prop where
 len:kids.length=names.length
 le:names.length≤m
 m3:m≤3
 nm:∀j (hj:j < names.length),Oe names[j] (m - j)
 kids:∀a∈kids,0≤a∧a < (n:Int)
theorem SeqI.nil {n m:Nat} (h:m≤3):SeqI n m [] []:=⟨rfl,Nat.zero_le _,h,fun j hj=> absurd hj (by simp),by simp⟩
theorem SeqI.snoc {n m:Nat} {names:List ByteArray} {kids:List Int} {s:ByteArray} {a:Int} (h:SeqI n m names kids) (hl:names.length < m) (hs:Oe s (m - names.length)) (h1:0≤a) (h2:a < n):SeqI n m (names++ [s]) (kids++ [a]):=by
 refine ⟨by simp [h.len],by simp;omega,h.m3,fun j hj=> ?_,fun b hb=> ?_⟩
 ·by_cases e:j < names.length
  ·rw [List.getElem_append_left e];exact h.nm j e
  ·have:j=names.length:=by simp at hj;omega
   subst this
   rw [List.getElem_append_right (Nat.le_refl _)]
   simpa using hs
 ·rcases List.mem_append.1 hb with hb|hb
  ·exact h.kids b hb
  ·simp at hb;subst hb;exact ⟨h1,h2⟩
theorem dr_seq {m:Nat} {names:List ByteArray} {kids:List Int} (hn:Oe nm D.length) (h:SeqI D.length m names kids) (hm:names.length=m) (h1:1≤m) (h0:0 < D.length):DrR D ⟨nm,6,0,false, [],names, [],kids⟩:=by
 have h3:=h.m3
 have hl:=h.len
 refine ⟨hn,by simp,?_,by simp [Zw],h.kids,by simp;omega,by simp,by simp,fun s hs=> ?_,by simp,fun _=> h0⟩
 ·have hi:Yv names.length 1 8=true:=Jo.2 (by omega)
  have ha:Jh (Ih names) names.length=true:=(Yo _ _).2 fun j hj=> by
   rw [Kc _ _ hj,(h.nm j hj).nm,Bool.true_and,Bool.not_eq_true']
   unfold Pb
   rw [List.any_eq_false]
   intro x hx
   obtain ⟨i,hi,rfl⟩:=List.getElem_of_mem hx
   rw [List.length_take] at hi
   rw [List.getElem_take]
   have:=(h.nm i (by omega)).ne (h.nm j hj) (by omega) (by omega) (by omega)
   simpa using this
  simp [Zn,Zg,Jn,hl,hi,ha]
 ·obtain ⟨i,hi,rfl⟩:=List.getElem_of_mem hs
  have hn:=h.nm i hi
  refine ⟨hn.size,fun e=> ?_⟩
  have hl:=hn.last
  rw [e] at hl
  have h2:(122:UInt8)=dg (m - i):=Option.some.inj hl
  have:=congrArg UInt8.toNat h2
  unfold dg at this
  simp at this
  omega
structure ChI (n:Nat) (tags kids:List Int):Prop where
 len:kids.length=tags.length
 tg:∀j (hj:j < tags.length),4*(j:Int)≤tags[j]∧tags[j]≤4*j+3
 kids:∀a∈kids,0≤a∧a < (n:Int)
theorem ChI.nil {n:Nat}:ChI n [] []:=⟨rfl,fun j hj=> absurd hj (by simp),by simp⟩
theorem ChI.snoc {n:Nat} {tags kids:List Int} {t a:Int} (h:ChI n tags kids) (ht:4*(tags.length:Int)≤t) (ht2:t≤4*tags.length+3) (h1:0≤a) (h2:a < n):ChI n (tags++ [t]) (kids++ [a]):=by
 refine ⟨by simp [h.len],fun j hj=> ?_,fun b hb=> ?_⟩
 ·by_cases e:j < tags.length
  ·rw [List.getElem_append_left e];exact h.tg j e
  ·have:j=tags.length:=by simp at hj;omega
   subst this
   rw [List.getElem_append_right (Nat.le_refl _)]
   simp
   omega
 ·rcases List.mem_append.1 hb with hb|hb
  ·exact h.kids b hb
  ·simp at hb;subst hb;exact ⟨h1,h2⟩
theorem dr_choice {i:Int} {tags kids:List Int} (hn:Oe nm D.length) (h1:0≤i) (h2:i < D.length) (h3:255≤Zp D i) (h:ChI D.length tags kids) (ht:1≤tags.length) (ht2:tags.length≤3):DrR D ⟨nm,7,0,false, [], [],tags,i::kids⟩:=by
 have hl:=h.len
 refine ⟨hn,by simp,?_,by simp [Zw],fun a ha=> ?_,by simp;omega,by simp,by simp,by simp,fun a ha=> ?_,fun _=> by omega⟩
 ·have hi:Yv tags.length 1 8=true:=Jo.2 (by omega)
  have ha:Jh (Rp (Zp D i) tags) tags.length=true:=(Yo _ _).2 fun j hj=> by
   have t1:=h.tg j hj
   cases j with
   |zero=> rw [Ua _ _ hj];exact Jo.2 (by omega)
   |succ j=>
    have t2:=h.tg j (by omega)
    rw [Ub _ _ _ hj,Bool.and_eq_true]
    exact ⟨Jo.2 (by omega),decide_eq_true (by omega)⟩
  simp [Zn,Zg,Ym,Xn,hl,hi,ha]
 ·rcases List.mem_cons.1 ha with rfl|ha
  ·exact ⟨h1,h2⟩
  ·exact h.kids a ha
 ·obtain ⟨j,hj,rfl⟩:=List.getElem_of_mem ha
  change j < tags.length at hj
  have:=h.tg j hj
  show 0≤tags[j]∧tags[j]≤11
  omega
end
def Zz (lo hi:Nat) (P:World→Prop) (w:World):Prop:=hi≤w.heap.size∧∀w':World,w.heap.size≤w'.heap.size→(∀k,lo≤k→k < hi→w'.heap[k]?=w.heap[k]?)→P w'
section
variable {lo hi lo' hi' b B:Nat} {P Q:World→Prop} {w w':World}
theorem Zz.now (h:Zz lo hi P w):P w:=h.2 w (Nat.le_refl _) fun _ _ _=> rfl
theorem Zz.step (h:Zz lo hi P w) (hz:w.heap.size≤w'.heap.size) (hk:∀k,lo≤k→k < hi→w'.heap[k]?=w.heap[k]?):Zz lo hi P w':=⟨Nat.le_trans h.1 hz,fun w2 h2 k2=>
 h.2 w2 (Nat.le_trans hz h2) fun k h1 h3=> (k2 k h1 h3).trans (hk k h1 h3)⟩
theorem Zz.go (h:Zz lo hi P w) (hg:Qw b w w') (hb:b < lo):Zz lo hi P w':=h.step hg.size fun k h1 h2=> hg.block k (Nat.lt_of_lt_of_le h2 h.1) (fun e=> by injection e;omega)
theorem Zz.below (h:Zz lo hi P w) (hb:Below w.heap.size w w'):Zz lo hi P w':=h.step hb.size fun k _ h2=> hb.block k (Nat.lt_of_lt_of_le h2 h.1)
theorem Zz.set (h:Zz lo hi P w) {g j:Nat} (hg:g < lo∨hi≤g) (u:Value):Zz lo hi P (w.setCell ⟨g,j,none⟩ u):=h.step (by simp [World.setCell]) fun k h1 h2=> Below.heap_setCell _ _ _ k (by rintro rfl;omega)
theorem Zz.row (h:Zz lo hi P w) {row:Option Nat} (hg:w.grownBy w' row) (hr:∀k,row=some k→k < lo∨hi≤k):Zz lo hi P w':=h.step hg.size fun k h1 h2=> hg.block k (Nat.lt_of_lt_of_le h2 h.1) (fun e=> by have:=hr k e.symm;omega)
theorem Zz.wide (h:Zz lo hi P w) (hl:lo'≤lo) (hh:hi≤hi') (hw:hi'≤w.heap.size):Zz lo' hi' P w:=⟨hw,fun w2 h2 k2=> h.2 w2 h2 fun k h1 h3=> k2 k (by omega) (by omega)⟩
theorem Zz.imp (h:Zz lo hi P w) (hq:∀w,P w→Q w):Zz lo hi Q w:=⟨h.1,fun w2 h2 k2=> hq _ (h.2 w2 h2 k2)⟩
theorem Zz.and (h:Zz lo hi P w) (h':Zz lo hi Q w):Zz lo hi (fun w=> P w∧Q w) w:=⟨h.1,fun w2 h2 k2=> ⟨h.2 w2 h2 k2,h'.2 w2 h2 k2⟩⟩
end
theorem Sl.of_lt {w:World} {B size n:Nat} {v:Value} {xs:List Value} {base:Nat} {e:TypeId} (h:w.ownsRow base e size v n xs) (hB:∀g,v.ownBlock=some g→g < B):Sl w B size v n xs:=by
 refine ⟨h.1,?_⟩
 rcases h.2 with ⟨rfl,rfl⟩|⟨g,cap,cur,rfl,hb,hg,hc,hm,hs,ht⟩
 ·exact ⟨none,0,rfl,Nat.le_refl _,Nat.zero_le _,fun h=> absurd h (by omega)⟩
 ·refine ⟨_,_,rfl,hc,hm,fun _=> ⟨g,0,rfl,hB g rfl,fun j u hu=> ?_⟩⟩
  have:=h.cells (g:=g) rfl j u hu
  have hadd:(⟨g,0,none⟩:Addr).add j=⟨g,j,none⟩:=by unfold Addr.add;split <;> simp_all
  rw [hadd] at this
  simpa using this
theorem La {w:World} {lo hi base size n:Nat} {e:TypeId} {v:Value} {xs:List Value} (h:w.ownsRow base e size v n xs) (hlo:lo≤base) (hb:∀g,v.ownBlock=some g→g < hi) (hh:hi≤w.heap.size):Zz lo hi (fun w'=> Sl w' hi size v n xs) w:=⟨hh,fun w2 h2 k2=>
 Sl.of_lt (Qe h fun g hg=> k2 g (Nat.le_trans hlo (h.lt g hg).1) (hb g hg)) hb⟩
theorem Ti {w:World} {lo base size n:Nat} {e:TypeId} {v:Value} {xs:List Value} (h:w.ownsRow base e size v n xs) (hlo:lo≤base):Zz lo w.heap.size (fun w'=> Sl w' w.heap.size size v n xs) w:=La h hlo (fun g hg=> (h.lt g hg).2) (Nat.le_refl _)
theorem VM.own.stays {w:World} {lo base:Nat} {x:VM} (h:x.own base w) (hlo:lo≤base):Zz lo w.heap.size (fun w'=> x.rd w' w.heap.size) w:=by
 refine ⟨Nat.le_refl _,?_⟩
 induction h with
 |mk hb hi hx ih=> exact fun w2 h2 k2=> .mk ((Ti hb hlo).2 w2 h2 k2) ((Ti hi hlo).2 w2 h2 k2) fun x hx=> ih x hx w2 h2 k2
def Zr (w:World) (g:Nat) (T:TypeId) (cs:Array Value):Prop:=w.heap[g]?=some (.cells cs T (0,0))
section
variable {w w':World} {g b o:Nat} {T:TypeId} {cs:Array Value}
theorem Zr.lt (h:Zr w g T cs):g < w.heap.size:=(Array.getElem?_eq_some_iff.1 h).1
theorem Zr.go (h:Zr w g T cs) (hg:Qw b w w') (hb:b≠g):Zr w' g T cs:=(hg.block g h.lt (fun e=> hb (Option.some.inj e).symm)).trans h
theorem Zr.below (h:Zr w g T cs) (hb:Below w.heap.size w w'):Zr w' g T cs:=(hb.block g h.lt).trans h
theorem Zr.new (w:World) (T:TypeId) (cs:Array Value):Zr (w.alloc (.cells cs T)) w.heap.size T cs:=World.alloc_heap_new w _
theorem Zr.alloc (h:Zr w g T cs) (ob:Obj):Zr (w.alloc ob) g T cs:=(Below.heap_alloc w ob g h.lt).trans h
theorem Zr.cell (h:Zr w g T cs) (j:Nat) {u:Value} (hu:cs[j]?=some u):w.cell? ⟨g,j,none⟩=some u:=(cell_of_row _ _ j _ _ (0,0) h).trans hu
theorem Zr.frozen (h:Zr w g T cs) (j:Nat):w.frozen? ⟨g,j,none⟩=false:=frozen_of_row _ _ j _ _ h
theorem Zr.set (h:Zr w g T cs) (j:Nat) (u:Value):Zr (w.setCell ⟨g,j,none⟩ u) g T (cs.setIfInBounds j u):=by
 have:=Go.heap_setCell_same w g j cs T u h
 exact this
theorem Zr.other (h:Zr w g T cs) {q j:Nat} (hq:q≠g) (u:Value):Zr (w.setCell ⟨q,j,none⟩ u) g T cs:=(Below.heap_setCell _ _ _ g (fun e=> hq e.symm)).trans h
theorem Zr.row (h:Zr w g T cs) {row:Option Nat} (hg:w.grownBy w' row) (hn:row≠some g):Zr w' g T cs:=(hg.block g h.lt (fun e=> hn e.symm)).trans h
theorem Qw.set {a:World} (h:Qw b a w) {q j:Nat} (hq:a.heap.size≤q) (u:Value):Qw b a (w.setCell ⟨q,j,none⟩ u):=
 have k:=Yb w q j u
 ⟨k.os.trans h.os,k.tape.trans h.tape,k.output.trans h.output,Nat.le_trans h.size k.size,fun i hi hne=> (k.block i (Nat.lt_of_lt_of_le hi h.size) (fun e=> by injection e;omega)).trans (h.block i hi hne)⟩
theorem Qw.rowG {a:World} {row:Option Nat} (h:Qw b a w) (hg:w.grownBy w' row) (hr:∀k,row=some k→a.heap.size≤k):Qw b a w':=
 ⟨hg.os.trans h.os,hg.tape.trans h.tape,hg.output.trans h.output,Nat.le_trans h.size hg.size,fun k hk hne=> (hg.block k (Nat.lt_of_lt_of_le hk h.size) (fun e=> by have:=hr k e.symm;omega)).trans (h.block k hk hne)⟩
theorem Qw.drew {a:World} (h:Qw b a w):Qw b a w.drew:=⟨h.os,h.tape,h.output,h.size,h.block⟩
theorem Qw.drewN {a:World} (h:Qw b a w) (n:Nat):Qw b a (w.drewN n):=⟨h.os,h.tape,h.output,h.size,h.block⟩
theorem Qm.rowG {v:Value} {l:List UInt8} {row:Option Nat} (h:Qm b v l w) (hg:w.grownBy w' row) (hr:∀k,row=some k→b < k):Qm b v l w':=by
 have hb:Below (b+1) w w':=(Below.refl (b+1) w).grown hg h.lt (fun k e=> hr k e)
 exact ⟨Sl.below h.sl (hb.mono (by omega)),h.at_.grown hb⟩
theorem Qm.set {v:Value} {l:List UInt8} (h:Qm b v l w) {q j:Nat} (hq:b < q) (u:Value):Qm b v l (w.setCell ⟨q,j,none⟩ u):=h.rowG (Yb w q j u) fun k e=> by cases e;exact hq
theorem Qm.drew {v:Value} {l:List UInt8} (h:Qm b v l w):Qm b v l w.drew:=⟨h.sl,h.at_⟩
end
theorem Me {b base:Nat} {w w':World} {e:TypeId} {size:Nat} {v:Value} {n:Nat} {xs:List Value} (h:w.ownsRow base e size v n xs) (hs:Qw b w w') (hb:b < base):w'.ownsRow base e size v n xs:=
 Qe h fun g hg=> hs.block g (h.lt g hg).2 (fun e=> by injection e;have:=(h.lt g hg).1;omega)
theorem Pz {w:World} {g size:Nat} {T:TypeId} {xs:List Value} (h:Zr w g T xs.toArray) (hn:xs.length=size) {B:Nat} (hB:g < B):Sl w B size (.slice (some ⟨g,0,none⟩) 1 1) 1 xs:=by
 refine ⟨by omega,_,_,rfl,Nat.le_refl _,by simp [maxLen],fun _=> ⟨g,0,rfl,hB,fun j u hu=> ?_⟩⟩
 rw [Nat.zero_add]
 exact h.cell j (by simpa using hu)
theorem own_blk {w:World} {g base n:Nat} {T:TypeId} {xs:List Value} (h:Zr w g T xs.toArray) (hn:xs.length=n) (hm:n≤maxLen) (hb:base≤g):w.ownsRow base T 1 (.slice (some ⟨g,0,none⟩) n n) n xs:=
 ⟨by omega, .inr ⟨g,n,xs.toArray,rfl,hb,h,Nat.le_refl _,hm,by simp;omega,by simp [←hn]⟩⟩
structure DG (lo:Nat) (w:World) (v:Value) (l:List RM):Prop where
 row:w.ownsRow lo 50 8 v l.length (l.flatMap Qp)
 parts:∀r∈l,∀w':World,w.heap.size≤w'.heap.size→(∀k,lo≤k→k < w.heap.size→v.ownBlock≠some k→w'.heap[k]?=w.heap[k]?)→r.rd w' w.heap.size
theorem DG.nil (lo:Nat) (w:World):DG lo w (.slice none 0 0) []:=⟨World.ownsRow_nil _ _ _ _,by simp⟩
theorem DG.stays {lo:Nat} {w:World} {v:Value} {l:List RM} (h:DG lo w v l):Zz lo w.heap.size (fun w'=> Jc w' w.heap.size v l) w:=⟨Nat.le_refl _,fun w2 h2 k2=>
 ⟨(Ti h.row (Nat.le_refl _)).2 w2 h2 k2,fun r hr=> h.parts r hr w2 h2 fun k h1 h3 _=> k2 k h1 h3⟩⟩
theorem DG.step {lo:Nat} {w w':World} {v:Value} {l:List RM} (h:DG lo w v l) (hz:w.heap.size≤w'.heap.size) (hk:∀k,lo≤k→k < w.heap.size→w'.heap[k]?=w.heap[k]?):DG lo w' v l:=
 ⟨Qe h.row fun g hg=> hk g (h.row.lt g hg).1 (h.row.lt g hg).2,fun r hr w2 h2 k2=> (h.parts r hr w2 (Nat.le_trans hz h2) fun k h1 h3 hn=> (k2 k h1 (Nat.lt_of_lt_of_le h3 hz) hn).trans (hk k h1 h3)).more hz⟩
theorem DG.go {lo b:Nat} {w w':World} {v:Value} {l:List RM} (h:DG lo w v l) (hg:Qw b w w') (hb:b < lo):DG lo w' v l:=h.step hg.size fun k h1 h2=> hg.block k h2 (fun e=> by injection e;omega)
theorem DG.below {lo:Nat} {w w':World} {v:Value} {l:List RM} (h:DG lo w v l) (hb:Below w.heap.size w w'):DG lo w' v l:=h.step hb.size fun k _ h2=> hb.block k h2
theorem DG.snoc {lo:Nat} {w w2 w3 wa:World} {v v':Value} {l:List RM} {r:RM} (h:DG lo w2 v l) (hr:Zz w.heap.size w2.heap.size (fun w'=> r.rd w' w2.heap.size) w2) (hv:∀g,v.ownBlock=some g→g < w.heap.size) (hw:w.heap.size≤w2.heap.size) (hlo:lo≤w.heap.size)
  (ha:Below w2.heap.size w2 wa) (hrow:w3.ownsRow lo 50 8 v' (l.length+1) (l.flatMap Qp++Qp r)) (hg:wa.grownBy w3 v.ownBlock) (hb:v'.ownBlock=v.ownBlock∨v'.ownBlock=some wa.heap.size):DG lo w3 v' (l++ [r]):=by
 have hz:=ha.size
 have hz3:=hg.size
 refine ⟨by rw [List.length_append,List.flatMap_append];simpa using hrow,fun q hq w4 h4 k4=> ?_⟩
 have hkeep:∀k,lo≤k→k < w2.heap.size→v.ownBlock≠some k→w4.heap[k]?=w2.heap[k]?:=fun k h1 h2 hn=> by
  rw [k4 k h1 (by omega) (fun e=> by
   rcases hb with e2|e2
   ·exact hn (e2 ▸ e)
   ·rw [e2] at e;injection e;omega),hg.block k (by omega) (fun e=> hn e.symm),ha.block k h2]
 rcases List.mem_append.1 hq with hq|hq
 ·exact (h.parts q hq w4 (by omega) hkeep).more (by omega)
 ·simp only [List.mem_singleton] at hq
  subst hq
  exact (hr.2 w4 (by omega) fun k h1 h2=> hkeep k (by omega) h2 (fun e=> by have:=hv k e;omega)).more (by omega)
theorem slb_oneG {W:World} {z:Int} (h0:0≤z) (h1:z≤255) {g:Nat} (hg:g=W.heap.size):Xq (W.alloc (.cells #[.int .u8 z] 5)) (W.heap.size+1) (.slice (some ⟨g,0,none⟩) 1 1) [UInt8.ofNat z.toNat]:=by
 subst hg
 refine ⟨by simp,_,_,rfl,by simp,by simp [maxLen],fun _=> ⟨W.heap.size,0,rfl,by omega,fun j u hu=> ?_⟩⟩
 match j,hu with
 |0,hu=>
  simp only [Tc,List.map_cons,List.map_nil,List.getElem?_cons_zero,Option.some.injEq] at hu
  subst hu
  have e:((UInt8.ofNat z.toNat).toNat:Int)=z:=by rw [UInt8.toNat_ofNat'];omega
  simp [go_sem,u8v]
  omega
 |j+1,hu=> simp [Tc] at hu
theorem Tm (b lo hi B:Nat) (v u:Value) (l:List UInt8) (xs:List Int) (w:World) (h:Qm b v l w) (hu:Zz lo hi (fun w'=> Yu w' B u xs) w) (hlo:b < lo) (h1:1≤xs.length) (h2:xs.length≤256):
  Calls prog 49 #[.pointer (some ⟨b,0,none⟩),u] w fun e w'=> (∃x∈xs,e= .returned (.int .i64 x))∧Qw b w w'∧w'.heap.size=w.heap.size∧Qm b v l w':=by
 obtain ⟨A,c,rfl,hc,hm,hcell⟩:=Sl.one hu.now
 unfold maxLen at hm
 go_enter func49,ntmps49
 go_wp2_with fail
 refine (Qn b b v l xs.length w h (by omega) (by omega)).mono ?_
 rintro e w1 ⟨⟨x,rfl,hx0,hx1⟩,hs,hz,hcw⟩
 obtain ⟨k,rfl⟩:=Int.eq_ofNat_of_zero_le hx0
 have hk:k < xs.length:=by omega
 obtain ⟨A',c',e',_,_,hcell2⟩:=Sl.one (hu.go hs hlo).now
 cases e'
 obtain ⟨bb,off,rfl,hbb,hd⟩:=hcell2 k hk
 have hmem:xs[k]∈xs:=List.getElem_mem hk
 generalize xs[k]=y at*
 have H:=Fd (And.intro hmem (And.intro hs (And.intro hz hcw)))
 clear hcell hcell2 hu h hs hz hcw hmem
 go_wp2
 go_ret
 exact ⟨⟨y,H.out.1,rfl⟩,H.out.2⟩
theorem Uz (b:Nat) (v:Value) (l:List UInt8) (M:Nat) (w:World) (h:Qm b v l w) (hm2:M≤1000):
  Calls prog 55 #[.pointer (some ⟨b,0,none⟩), .int .i64 M] w fun e w'=> ∃u xs,e= .returned u∧xs.length=M∧w'.ownsRow w.heap.size 5 1 u xs.length (Tc xs)∧Qw b w w'∧Qm b v l w':=by
 obtain ⟨i0,hi,hz0,hz1,hz2⟩:=info_parts info_u8
 have hbw:=h.lt
 have H:=Fd h
 clear h
 go_enter func55,ntmps55
 go_wp2
 go_loopw [5,6] (fun o i wr=> ∃xs:List UInt8,xs.length≤M∧i= .int .i64 xs.length∧wr.ownsRow w.heap.size 5 1 o xs.length (Tc xs)∧Qw b w wr∧Qm b v l wr) (fun _ i _=> M - (intOf i).toNat)
 case atStart=> exact ⟨[],Nat.zero_le _,rfl,Pv _ _ _,(Qw.of_below (Below.refl _ _)).alloc _,H.out.alloc _⟩
 case round=>
  obtain ⟨xs,hk,rfl,hown,hb,hcu⟩:=hrel
  by_cases hlt:xs.length < M
  ·have hlt2:(xs.length:Int) < M:=by omega
   have hsz:=hb.size
   have hOW:=Fd hown
   have hBB:=Fd hb
   have hCU:=Fd hcu
   have hbr:=hcu.lt
   clear hown hb hcu
   go_wp2_with (first|(go_at_call 56;refine (Tn b b v l _ hCU.out.sl (Nat.le_refl _) hCU.out.at_).mono ?_;rintro e w1 ⟨⟨x,rfl,hx0,hx1⟩,hs,hcu⟩;have hS:=Fd (Me hOW.out hs.1 (by omega));have hC1:=Fd (hCU.out.step hs.1 hcu);have hB1:=Fd (hBB.out.trans hs.1);have hsz1:=Fd hs.2;clear hs hcu)|(at_builtin;refine Xf _ rfl (.tmp 13) (.tmp 17) 22 rfl w.heap.size 5 i0 (.int .u8 0) 1 1 underlying22 hi hz0 hz1 hz2 rfl (by decide) _ xs.length _ rfl (Zv hS.out ((Below.refl _ _).alloc (Nat.le_refl _) _) (Nat.le_refl _)) _ 1 _ (Tc [UInt8.ofNat x.toNat]) rfl (slb_oneG hx0 hx1 rfl) (Xg _) (by omega) (by unfold maxLen;omega) (by have:=hsz1.out;simp;omega) ?_;intro v2 w2 own2 hg2 _))
   have hlt3:=hS.out.lt
   rw [←Kl] at own2
   have H2:=Fd (And.intro own2 (And.intro ((hB1.out.alloc _).rowG hg2 fun k e=> (hlt3 k e).1) ((hC1.out.alloc _).rowG hg2 fun k e=> by have:=(hlt3 k e).1;omega)))
   clear own2 hg2 hlt3 hS hC1 hB1 hOW hBB hCU
   go_roundw
   case rel=> exact ⟨xs++ [UInt8.ofNat x.toNat],by simp;omega,by simp,by simpa using H2.out.1,H2.out.2.1,H2.out.2.2⟩
   case measure=> simp [intOf];omega
  ·have hM:xs.length=M:=by omega
   have H2:=Fd (And.intro hown (And.intro hb hcu))
   clear hown hb hcu
   go_wp2
   go_ret
   exact ⟨_,xs,rfl,hM,H2.out.1,H2.out.2.1,H2.out.2.2⟩
theorem Pt {W:World} {u:Value} {t:TypeId} {g:Nat} (hg:g=W.heap.size):Sl (W.alloc (.cells #[u] t)) (W.heap.size+1) 1 (.slice (some ⟨g,0,none⟩) 1 1) 1 [u]:=by
 subst hg
 refine ⟨rfl,_,_,rfl,Nat.le_refl _,by simp [maxLen],fun _=> ⟨W.heap.size,0,rfl,by omega,fun j u' hu=> ?_⟩⟩
 match j,hu with
 |0,hu=> simp only [List.getElem?_cons_zero,Option.some.injEq] at hu;subst hu;simp [go_sem]
 |j+1,hu=> simp at hu
theorem Rg (b lo B:Nat) (v vD:Value) (l:List UInt8) (L:List RM) (w:World) (h:Qm b v l w) (hd:Zz lo B (fun w'=> Jc w' B vD L) w) (hlo:b < lo) (hB:B≤w.heap.size) (h1:0 < L.length) (h9:L.length≤9) (hk:L[0].d.kind=1):
  Calls prog 71 #[.pointer (some ⟨b,0,none⟩), .agg #[vD]] w fun e w'=> (∃k,∃hk:k < L.length,e= .returned (.int .i64 k)∧L[k].d.kind=1)∧Qw b w w'∧Qm b v l w':=by
 obtain ⟨i0,hi,hz0,hz1,hz2⟩:=info_parts info_i64
 obtain ⟨A,c,rfl,hc,hm, -⟩:=hd.now.open_
 unfold maxLen at hm
 have hbw:=h.lt
 have H:=Fd h
 have HD:=Fd hd
 have HK:=Fd hk
 clear h hd hk
 go_enter func71,ntmps71
 go_wp2
 have hb0:Below (w.heap.size+1) (w.alloc (.cells #[.slice A L.length c] 26)) ((w.alloc (.cells #[.slice A L.length c] 26)).alloc (.cells #[] 3)):=(Below.refl _ _).alloc (by simp) _
 have hz0':(w.alloc (.cells #[.slice A L.length c] 26)).heap.size=w.heap.size+1:=by simp
 have hs0:(w.alloc (.cells #[.slice A L.length c] 26)).cell? ⟨w.heap.size,0,none⟩=some (.slice A L.length c):=by simp [go_sem]
 have ho0:((w.alloc (.cells #[.slice A L.length c] 26)).alloc (.cells #[] 3)).ownsRow (w.heap.size+1) 3 1 (.slice (some ⟨w.heap.size+1,0,none⟩) 0 0) 0 []:=Qx (by simp) (Nat.le_refl _)
 have hbb:Below w.heap.size w (w.alloc (.cells #[.slice A L.length c] 26)):=(Below.refl _ _).alloc (Nat.le_refl _) _
 generalize w.alloc (.cells #[.slice A L.length c] 26)=W at*
 have HBB:=Fd hbb
 go_loopw [5,6] (fun o i wr=> ∃(k:Nat) (R:List Int),k≤L.length∧i= .int .i64 k∧R.length≤k∧(0 < k→0 < R.length)∧(∀a∈R,∃q:Nat,∃hq:q < L.length,a=q∧L[q].d.kind=1)∧wr.ownsRow (w.heap.size+1) 3 1 o R.length (R.map (.int .i64))∧Below (w.heap.size+1) W wr) (fun _ i _=> L.length - (intOf i).toNat)
 case atStart=> exact ⟨0, [],Nat.zero_le _,rfl,Nat.zero_le _,fun h=> absurd h (by omega),by simp,ho0,hb0⟩
 case round=>
  clear ho0 hb0
  obtain ⟨k,R,hk,rfl,hR,hpos,hall,hown,hb⟩:=hrel
  have hsz:=hb.size
  have bw:Below w.heap.size w wr:=HBB.out.trans (hb.mono (by omega))
  have s0:=Zc hs0 hb (by omega)
  have HA:=Fd hall
  have HO:=Fd hown
  have HW:=Fd (And.intro hb bw)
  clear hall hown hs0 hbb
  by_cases hlt:k < L.length
  ·obtain ⟨A',c',e',_,_,hcell⟩:=(HD.out.below bw).now.open_
   cases e'
   obtain ⟨bb,off,rfl,hbB, -,p1, -⟩:=hcell k hlt
   clear hcell hb bw
   by_cases hq:L[k].d.kind=1
   ·have HQ:=Fd hq
    rw [hq] at p1
    clear hq
    go_wp2_with (at_builtin;refine Xf _ rfl (.tmp 22) (.tmp 24) 48 rfl (w.heap.size+1) 3 i0 (.int .i64 0) 1 8 underlying48 hi hz0 hz1 hz2 rfl (by decide) _ R.length _ rfl (HO.out.alloc _) _ 1 _ [.int .i64 k] rfl (Pt rfl) (by simp [Value.oneCell']) (by omega) (by unfold maxLen;omega) (by simp;omega) ?_;intro v2 w2 own2 hg2 _)
    have hlt3:=HO.out.lt
    have H2:=Fd (And.intro own2 ((HW.out.1.alloc (by omega) (.cells #[.int .i64 k] 3)).grown hg2 (by simp;omega) fun g e=> (hlt3 g e).1))
    clear own2 hg2 hlt3 p1 s0
    go_roundw
    case rel=> exact ⟨k+1,R++ [(k:Int)],by omega,by go_num,by simp;omega,by simp,fun a ha=> by
     rcases List.mem_append.1 ha with ha|ha
     ·exact HA.out a ha
     ·simp at ha;subst ha;exact ⟨k,hlt,rfl,HQ.out⟩,by simpa using H2.out.1,H2.out.2⟩
    case measure=> simp [intOf];omega
   ·have hne:(L[k].d.kind==1)=false:=by rw [beq_eq_false_iff_ne];exact hq
    have hk0:0 < k:=by
     rcases Nat.eq_zero_or_pos k with rfl|h
     ·exact absurd HK.out hq
     ·exact h
    have hR0:=hpos hk0
    clear hq
    go_wp2
    go_roundw
    case rel=> exact ⟨k+1,R,by omega,by go_num,by omega,fun _=> hR0,HA.out,HO.out,HW.out.1⟩
    case measure=> simp [intOf];omega
  ·have hkl:k=L.length:=by omega
   subst hkl
   have hR0:=hpos h1
   have hst:=Ti (lo:=w.heap.size+1) HO.out (Nat.le_refl _)
   have HST:=Fd hst
   have HC:=Fd (H.out.below bw)
   clear hst hb bw
   go_wp2_with fail
   refine (Tm b (w.heap.size+1) wr.heap.size wr.heap.size v _ l R wr HC.out HST.out (by omega) (by omega) (by omega)).mono ?_
   rintro e w2 ⟨⟨x,hx,rfl⟩,hg,_,hc2⟩
   obtain ⟨q,hq,rfl,hq1⟩:=HA.out x hx
   have HF:=Fd (And.intro hq1 (And.intro ((Qw.of_below HW.out.2).trans hg) hc2))
   clear hg hc2 hx hq1
   go_wp2
   go_ret
   exact ⟨⟨q,hq,rfl,HF.out.1⟩,HF.out.2⟩
theorem Zr.c8 {w:World} {g:Nat} {T:TypeId} {a0 a1 a2 a3 a4 a5 a6 a7:Value} (h:Zr w g T #[a0,a1,a2,a3,a4,a5,a6,a7]):
  (w.cell? ⟨g,0,none⟩=some a0∧w.cell? ⟨g,1,none⟩=some a1∧w.cell? ⟨g,2,none⟩=some a2∧w.cell? ⟨g,3,none⟩=some a3∧w.cell? ⟨g,4,none⟩=some a4∧w.cell? ⟨g,5,none⟩=some a5∧w.cell? ⟨g,6,none⟩=some a6∧w.cell? ⟨g,7,none⟩=some a7)∧
  (w.frozen? ⟨g,0,none⟩=false∧w.frozen? ⟨g,1,none⟩=false∧w.frozen? ⟨g,2,none⟩=false∧w.frozen? ⟨g,3,none⟩=false∧w.frozen? ⟨g,4,none⟩=false∧w.frozen? ⟨g,5,none⟩=false∧w.frozen? ⟨g,6,none⟩=false∧w.frozen? ⟨g,7,none⟩=false):=
 ⟨⟨h.cell 0 rfl,h.cell 1 rfl,h.cell 2 rfl,h.cell 3 rfl,h.cell 4 rfl,h.cell 5 rfl,h.cell 6 rfl,h.cell 7 rfl⟩,h.frozen 0,h.frozen 1,h.frozen 2,h.frozen 3,h.frozen 4,h.frozen 5,h.frozen 6,h.frozen 7⟩
structure Ob (b lo B:Nat) (v:Value) (l:List UInt8) (vD:Value) (L:List RM) (w:World) (g:Nat) (cs:Array Value) (W:World):Prop where
 cur:Qm b v l W
 st:Zz lo B (fun w'=> Jc w' B vD L) W
 go:Qw b w W
 dbox:Zr W w.heap.size 26 #[vD]
 res:Zr W (w.heap.size+1) 50 #[.string ⟨#[]⟩, .int .i64 0, .int .i64 0, .bool false, .slice none 0 0, .slice none 0 0, .slice none 0 0, .slice none 0 0]
 box:Zr W g 50 cs
 hb:b < w.heap.size
 hlo:b < lo
 hg:w.heap.size+2≤g
 hB:B≤w.heap.size
section
variable {b lo B g:Nat} {v vD:Value} {l:List UInt8} {L:List RM} {w W W':World} {cs:Array Value}
theorem Ob.step (h:Ob b lo B v l vD L w g cs W) (hs:Qw b W W') (hc:Qm b v l W'):Ob b lo B v l vD L w g cs W':=
 have h1:=h.hb
 have h2:=h.hg
 ⟨hc,h.st.go hs h.hlo,h.go.trans hs,h.dbox.go hs (by omega),h.res.go hs (by omega),h.box.go hs (by omega),h.hb,h.hlo,h.hg,h.hB⟩
theorem Ob.below (h:Ob b lo B v l vD L w g cs W) (hb:Below W.heap.size W W'):Ob b lo B v l vD L w g cs W':=h.step (Qw.of_below hb) (h.cur.below hb)
theorem Ob.alloc (h:Ob b lo B v l vD L w g cs W) (o:Obj):Ob b lo B v l vD L w g cs (W.alloc o):=h.below ((Below.refl _ _).alloc (Nat.le_refl _) o)
theorem Ob.drew (h:Ob b lo B v l vD L w g cs W):Ob b lo B v l vD L w g cs W.drew:=h.step ⟨rfl,rfl,rfl,Nat.le_refl _,fun _ _ _=> rfl⟩ h.cur.drew
theorem Ob.set (h:Ob b lo B v l vD L w g cs W) (j:Nat) (u:Value):Ob b lo B v l vD L w g (cs.setIfInBounds j u) (W.setCell ⟨g,j,none⟩ u):=
 have h1:=h.hb
 have h2:=h.hg
 have h3:=h.hB
 ⟨h.cur.set (by omega) u,h.st.set (.inr (by omega)) u,h.go.set (by omega) u,h.dbox.other (by omega) u,h.res.other (by omega) u,h.box.set j u,h.hb,h.hlo,h.hg,h.hB⟩
theorem Ob.fin (h:Ob b lo B v l vD L w g cs W) (a0 a1 a2 a3 a4 a5 a6 a7:Value):
  ∃Wf,Wf=(((((((W.setCell ⟨w.heap.size+1,0,none⟩ a0).setCell ⟨w.heap.size+1,1,none⟩ a1).setCell ⟨w.heap.size+1,2,none⟩ a2).setCell ⟨w.heap.size+1,3,none⟩ a3).setCell ⟨w.heap.size+1,4,none⟩ a4).setCell ⟨w.heap.size+1,5,none⟩ a5).setCell ⟨w.heap.size+1,6,none⟩ a6).setCell ⟨w.heap.size+1,7,none⟩ a7∧
   Zr Wf (w.heap.size+1) 50 #[a0,a1,a2,a3,a4,a5,a6,a7]∧Qw b w Wf∧Qm b v l Wf∧Wf.heap.size=W.heap.size∧∀k,k≠w.heap.size+1→Wf.heap[k]?=W.heap[k]?:=by
 have h1:=h.hb
 refine ⟨_,rfl,?_,?_,?_,by simp [World.setCell],fun k hk=> ?_⟩
 ·have:=(((((((h.res.set 0 a0).set 1 a1).set 2 a2).set 3 a3).set 4 a4).set 5 a5).set 6 a6).set 7 a7
  simpa using this
 ·repeat (refine Qw.set ?_ (by omega) _)
  exact h.go
 ·repeat (refine Qm.set ?_ (by omega) _)
  exact h.cur
 ·repeat (rw [Below.heap_setCell _ _ _ k hk])
end
def Po (b:Nat) (v:Value) (l:List UInt8) (L:List RM) (w:World) (e:Ending) (w':World):Prop:=
 ∃r:RM,e= .returned (Jd r)∧DrR (L.map RM.d) r.d∧Zz w.heap.size w'.heap.size (fun w''=> r.rd w'' w'.heap.size) w'∧Qw b w w'∧Qm b v l w'
theorem Rz {w:World} {g n:Nat} {T:TypeId} {xs:List Value} (h:Zr w g T xs.toArray) (hn:xs.length=n) (hm:n≤maxLen) {B:Nat} (hB:g < B):Sl w B 1 (.slice (some ⟨g,0,none⟩) n n) n xs:=by
 refine ⟨by omega,_,_,rfl,Nat.le_refl _,hm,fun _=> ⟨g,0,rfl,hB,fun j u hu=> ?_⟩⟩
 rw [Nat.zero_add]
 exact h.cell j (by simpa using hu)
theorem own_set {w:World} {base:Nat} {E:TypeId} {size n:Nat} {v:Value} {xs:List Value} (h:w.ownsRow base E size v n xs) {g j:Nat} (hg:g < base) (u:Value):(w.setCell ⟨g,j,none⟩ u).ownsRow base E size v n xs:=
 Qe h fun q hq=> Below.heap_setCell _ _ _ q (by have:=(h.lt q hq).1;show q≠g;omega)
section
variable {P:Program} {ops:Array Oper} {Q:Exit→Act→World→Prop} {md:Region.Mode} {S:World→Prop} {m:Nat}
def Uq (P:Program) (md:Region.Mode) (ops:Array Oper) (Q:Exit→Act→World→Prop) (S:World→Prop) (m:Nat):Nat→Array Bool→Act→World→Prop
 |0,listed,a,w=> Region.ready md ops listed= []∧Q .normal a w
 |fuel+1,listed,a,w=>
  (Region.ready md ops listed= []→Q .normal a w)∧
  ∀i∈Region.ready md ops listed,wpOp P ops Q i (fun a' w'=> (i≠m→S w')∧Uq P md ops Q S m fuel (listed.setIfInBounds i true) a' w') a w
theorem Kg:∀(fuel:Nat) (listed:Array Bool) (a:Act) (w:World),Uq P md ops Q S m fuel listed a w→wpAny P md ops Q fuel listed a w
 |0,_,_,_,h=> h
 |fuel+1,_,_,_,h=> ⟨h.1,fun i hi=> wpOp_mono (fun a' w' h'=> Kg fuel _ a' w' h'.2) (h.2 i hi)⟩
theorem Gn {i:Nat} {oi om:Oper} {v:Value} (hi:ops[i]?=some oi) (hm:ops[m]?=some om) (hw:∃e∈om.after,Region.binds md e=true∧e.on=i) (hsel:∀(j:Nat) (o:Oper) cs b,ops[j]?=some o→o.op≠ .select cs b)
  (hQ:∀c a w,Q (.panic c) (a.put oi.dst v) w→Q (.panic c) a w):
  ∀(fuel:Nat) (listed:Array Bool) (a:Act) (w:World),
   (∀j oj,ops[j]?=some oj→j≠i→listed.getD j true=false→(∀e∈oj.after,Region.binds md e=true→e.on≠i)→oi.apart ops oj=true)→
   i∈Region.ready md ops listed→YieldsIf P ops S oi v a→S w→
   Uq P md ops Q S m fuel (listed.setIfInBounds i true) (a.put oi.dst v) w→Uq P md ops Q S m (fuel+1) listed a w:=by
 intro fuel
 induction fuel with
 |zero=>
  intro listed a w _ hr hy hS H
  refine ⟨fun h=> (by rw [h] at hr;cases hr),fun j hj=> ?_⟩
  by_cases hji:j=i
  ·subst hji;exact hy.wpOp hi hS ⟨fun _=> hS,H⟩
  ·have:=ready_mono hj hji
   rw [H.1] at this
   cases this
 |succ fuel ih=>
  intro listed a w hfree hr hy hS H
  refine ⟨fun h=> (by rw [h] at hr;cases hr),fun j hj=> ?_⟩
  by_cases hji:j=i
  ·subst hji;exact hy.wpOp hi hS ⟨fun _=> hS,H⟩
  ·have h1:=H.2 j (ready_mono hj hji)
   obtain ⟨hjun,oj,hoj,hall⟩:=mem_ready.1 hj
   have hnot:∀e∈oj.after,Region.binds md e=true→e.on≠i:=fun e he hb heq=> by
    have h1:=hall e he hb
    have h0:=(mem_ready.1 hr).1
    rw [heq] at h1
    rcases Nat.lt_or_ge i listed.size with h'|h'
    ·simp [h'] at h0 h1;rw [h0] at h1;cases h1
    ·simp [Array.getElem?_eq_none h'] at h1
   have hjm:j≠m:=fun e=> by
    subst e
    rw [hm] at hoj
    cases hoj
    obtain ⟨e,he,hb,heq⟩:=hw
    exact hnot e he hb heq
   have h2:=wpOp_putIf hoj (hfree j oj hoj hji hjun hnot) (fun cs b=> hsel i oi cs b hi) (fun cs b=> hsel j oj cs b hoj) hQ hy h1
   have hfree':∀k ok,ops[k]?=some ok→k≠i→(listed.setIfInBounds j true).getD k true=false→
     (∀e∈ok.after,Region.binds md e=true→e.on≠i)→oi.apart ops ok=true:=fun k ok hk hki hun hno=> by
    refine hfree k ok hk hki ?_ hno
    by_cases hjk:j=k
    ·subst hjk;exact hjun
    ·rw [getD_set_ne true hjk] at hun;exact hun
   refine wpOp_mono (fun a' w' h3=> ⟨h3.2.1,ih (listed.setIfInBounds j true) a' w' hfree' (ready_mono hr (Ne.symm hji)) h3.1 (h3.2.1 hjm) ?_⟩) h2
   rw [Array.setIfInBounds_comm _ _ hji]
   exact h3.2.2
variable {oi:Oper} {d:Option Tmp} {fuel:Nat} {listed:Array Bool} {a:Act} {w:World}
def waitsFor (md:Region.Mode) (ops:Array Oper) (m i:Nat):Bool:=match ops[m]? with|none=> false|some o=> o.after.any fun e=> Region.binds md e && e.on==i
theorem Zs (i:Nat) (d:Option Tmp) (hS:S w) (v:Value)
  (h:Uq P md ops Q S m fuel (listed.setIfInBounds i true) (a.put d v) w)
  (hi:Uo ops.toList i=some oi:=by rfl) (hd:oi.dst=d:=by rfl) (hs:Region.noSelect ops=true:=by kernel_rfl) (hf:Region.free md ops listed i=true:=by kernel_rfl) (hr:(Region.ready md ops listed).contains i=true:=by kernel_rfl)
  (hm:waitsFor md ops m i=true:=by kernel_rfl)
  (hQ:∀c v a w,Q (.panic c) (a.put d v) w→Q (.panic c) a w:=by exact fun _ _ _ _ h=> h) (hw:Region.wanted oi (yielded ops a.tmps)=true:=by rfl)
  (hy:∀w,S w→(execOp a.eval oi).run P w= .ok (.value v) w:=by intro w9 hSw;(try dsimp only at hSw);go_simp;try with_reducible rfl):Uq P md ops Q S m (fuel+1) listed a w:=by
 subst hd
 unfold waitsFor at hm
 cases ho:ops[m]? with
 |none=> rw [ho] at hm;cases hm
 |some om=>
  rw [ho] at hm
  simp only [Array.any_eq_true',Bool.and_eq_true,beq_iff_eq] at hm
  exact Gn (Ve hi) ho (by obtain ⟨e,he,hb,hon⟩:=hm;exact ⟨e,he,hb,hon⟩) (Region.noSelect_spec hs) (fun c a w=> hQ c v a w) fuel listed a w (Region.free_spec (Ve hi) hf) (by simpa using hr) (.inl ⟨hw,hy⟩) hS h
theorem Qv (i:Nat)
  (h:∀K':Act→World→Prop,Shut (∀a w,S w→(S w→Uq P md ops Q S m fuel (listed.setIfInBounds i true) a w)→K' a w)→Oper.wp P oi a w K' Q)
  (hr:Region.ready md ops listed= [i]:=by kernel_rfl) (hi:Uo ops.toList i=some oi:=by rfl) (hw:Region.wanted oi (yielded ops a.tmps)=true:=by rfl):Uq P md ops Q S m (fuel+1) listed a w:=by
 refine ⟨fun h0=> (by rw [hr] at h0;cases h0),fun j hj=> ?_⟩
 rw [hr,List.mem_singleton] at hj
 subst hj
 refine wpOp_step (Ve hi) fun K' hK=> ?_
 rw [if_pos hw]
 exact h K' (fun a w hS hW=> hK a w ⟨fun _=> hS,hW hS⟩)
theorem Tf (h:∀K':Act→World→Prop,Shut (∀a w,Uq P md ops Q S m fuel (listed.setIfInBounds m true) a w→K' a w)→Oper.wp P oi a w K' Q)
  (hr:Region.ready md ops listed= [m]:=by kernel_rfl) (hi:Uo ops.toList m=some oi:=by rfl) (hw:Region.wanted oi (yielded ops a.tmps)=true:=by rfl):Uq P md ops Q S m (fuel+1) listed a w:=by
 refine ⟨fun h0=> (by rw [hr] at h0;cases h0),fun j hj=> ?_⟩
 rw [hr,List.mem_singleton] at hj
 subst hj
 refine wpOp_step (Ve hi) fun K' hK=> ?_
 rw [if_pos hw]
 exact h K' (fun a w hW=> hK a w ⟨fun h=> absurd rfl h,hW⟩)
theorem Jt {listed:Array Bool} {a:Act} {w:World} (hr:Region.ready md ops listed= []) (h:Q .normal a w):
  ∀fuel,Uq P md ops Q S m fuel listed a w
 |0=> ⟨hr,h⟩
 | _+1=> ⟨fun _=> h,by rw [hr];simp⟩
end
theorem Qs {P:Program} {ops:Array Oper} {Q:Exit→Act→World→Prop} {S:World→Prop} (m:Nat) {id:Nat} {a:Act} {w:World} (hm:P.follows .mixedOrders=true) (hS:S w.drew)
  (h:S w.drew→Uq P .any ops Q S m ops.size (Array.replicate ops.size false) a w.drew):(Code.region id ops true).wp P Q a w:=
 wp_region_any hm (Kg _ _ _ _ (h hS))
end Go.Proofs.YteldgdelmaeokaaGreatDoor
