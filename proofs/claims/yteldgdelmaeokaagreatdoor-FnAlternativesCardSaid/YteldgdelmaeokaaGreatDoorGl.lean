/- Out of Split, SplitP, RfKp, RfIt, RfPath, SplitI, SplitS: the walks and plain laws that the claim needs. No condition but those that each theorem names. -/
import Derived.Test.YteldgdelmaeokaaGreatDoorGa
import Derived.Test.YteldgdelmaeokaaGreatDoorGb
import Derived.WalkSpells
import Derived.WalkLawsBesides
import Derived.RangeFuncNested
import Derived.RangeFuncBound
import Derived.RangeFuncCalls
import Derived.RangeFuncLeaves
import Derived.RangeFuncBox
import Derived.Maps.OwnIn
import Derived.Shelf.Abstract
import Derived.Shelf.RegionOpen
import Derived.WalkKit
import Derived.OwnWalkIn
import Derived.TacticsInMore
import Derived.LoopNIn
import Derived.LoopIn
set_option linter.unusedSimpArgs false
set_option linter.unusedVariables false
set_option maxHeartbeats 4000000
set_option maxRecDepth 100000
namespace Go.Proofs.YteldgdelmaeokaaGreatDoor
open Go.Proofs.Tryz Go.RowKit
open Go.RowKit Go.Shelf
def Qc (s:ByteArray) (c:UInt8):Nat→List ByteArray × Nat
 |0=> ([],0)
 |i+1=> if s.data[i]?=some c then ((Qc s c i).1++ [s.extract (Qc s c i).2 i],i+1) else Qc s c i
def Xa (s:ByteArray) (c:UInt8):List ByteArray:=(Qc s c s.size).1++ [s.extract (Qc s c s.size).2 s.size]
theorem Oh (s:ByteArray) (c:UInt8) (i:Nat):(Qc s c i).2≤i∧(Qc s c i).1.length≤i:=by
 induction i with
 |zero=> simp [Qc]
 |succ i ih=>
  simp only [Qc]
  split
  ·simp;omega
  ·omega
theorem Kk (s:ByteArray) (k:Nat) (h:k < s.size):s.data[k]?=some s[k]:=Array.getElem?_eq_getElem (show k < s.data.size from h)
theorem Lu (s:ByteArray) (c:UInt8) (k:Nat) (h:k < s.size) (he:s[k]=c):Qc s c (k+1)=((Qc s c k).1++ [s.extract (Qc s c k).2 k],k+1):=by
 rw [Qc,if_pos (by rw [Kk s k h,he])]
theorem Mb (s:ByteArray) (c:UInt8) (k:Nat) (h:k < s.size) (he:s[k]≠c):Qc s c (k+1)=Qc s c k:=by
 rw [Qc,if_neg (by rw [Kk s k h];simpa using he)]
theorem Rw {W:World} {z:ByteArray} {t:TypeId} {g:Nat} (hg:g=W.heap.size):Sl (W.alloc (.cells #[.string z] t)) (W.heap.size+1) 1 (.slice (some ⟨g,0,none⟩) 1 1) 1 [.string z]:=by
 subst hg
 refine ⟨by simp,_,_,rfl,by simp,by simp [maxLen],fun _=> ⟨W.heap.size,0,rfl,by omega,fun j u hu=> ?_⟩⟩
 match j,hu with
 |0,hu=> simp only [List.getElem?_cons_zero,Option.some.injEq] at hu;subst hu;simp [go_sem]
 |j+1,hu=> simp at hu
theorem Mk (s:ByteArray) (c:UInt8) (w:World) (hs:s.size≤2097152):
  Calls prog 94 #[.string s, .int .u8 c.toNat] w (Gz w 9 1 (Xa s c).length ((Xa s c).map .string)):=by
 obtain ⟨i0,hi,hz0,hz1,hz2⟩:=info_parts info_str
 go_enter func94,ntmps94
 go_wp2
 go_loopw [5,6,7] (fun o f i wr=> ∃k:Nat,k≤s.size∧i= .int .i64 k∧f= .int .i64 (Qc s c k).2∧wr.ownsRow w.heap.size 9 1 o (Qc s c k).1.length ((Qc s c k).1.map .string)∧Below w.heap.size w wr) (fun _ _ i _=> s.size - (intOf i).toNat)
 case atStart=> exact ⟨0,Eb _,rfl,rfl,Ps _ _ _,(Fv _ _).alloc (Fu _) _⟩
 case round=>
  obtain ⟨k,hk,rfl,rfl,hown,hb⟩:=hrel
  obtain ⟨hb1,hb2⟩:=Oh s c k
  have HO:=Fs hown
  have HB:=Fs hb
  have hsz:=hb.size
  clear hown hb
  by_cases hlt:k < s.size
  ·by_cases he:s[k]=c
   ·have hbe:((s[k].toNat:Int)==(c.toNat:Int))=true:=by rw [he];simp
    have hp:=Lu s c k hlt he
    go_wp2_with (at_builtin;refine Xv _ rfl (.tmp 20) (.tmp 25) 47 rfl w.heap.size 9 i0 (.string ⟨#[]⟩) 1 16 underlying47 hi hz0 hz1 hz2 rfl (by decide) _ (Qc s c k).1.length _ rfl (Qb HO.out ((Fv _ _).alloc (Fu _) _) (Fu _)) _ 1 _ [.string (s.extract (Qc s c k).2 k)] rfl (Rw rfl) (by simp [Value.oneCell']) (by omega) (by unfold maxLen;omega) (by simp;omega) ?_;intro v2 w2 own2 hg2 _)
    have hbel:=Px hg2 (Qb HO.out ((Fv _ _).alloc (Fu _) _) (Fu _)) (Fu _) (by simp;omega) (HB.out.alloc hsz _)
    have H:=Fs (Ft own2 hbel)
    have HP:=Fs hp
    clear own2 hg2 hbel HO HB hp
    go_roundw
    case rel=> exact ⟨k+1,by omega,by go_num,by rw [HP.out];go_num,by rw [HP.out];simpa using H.out.1,H.out.2⟩
    case measure=> simp [intOf];omega
   ·have hbe:((s[k].toNat:Int)==(c.toNat:Int))=false:=by
     rw [beq_eq_false_iff_ne];intro hx;exact he (UInt8.toNat_inj.1 (by omega))
    have HP:=Fs (Mb s c k hlt he)
    go_wp2
    go_roundw
    case rel=> exact ⟨k+1,by omega,by go_num,by rw [HP.out],by rw [HP.out];exact HO.out,HB.out⟩
    case measure=> simp [intOf];omega
  ·obtain rfl:k=s.size:=by omega
   generalize hk':s.size=k at*
   go_wp2_with (at_builtin;refine Xv _ rfl (.tmp 29) (.tmp 33) 47 rfl w.heap.size 9 i0 (.string ⟨#[]⟩) 1 16 underlying47 hi hz0 hz1 hz2 rfl (by decide) _ (Qc s c k).1.length _ rfl (Qb HO.out ((Fv _ _).alloc (Fu _) _) (Fu _)) _ 1 _ [.string (s.extract (Qc s c k).2 k)] rfl (Rw rfl) (by simp [Value.oneCell']) (by omega) (by unfold maxLen;omega) (by simp;omega) ?_;intro v2 w2 own2 hg2 _)
   have hbel:=Px hg2 (Qb HO.out ((Fv _ _).alloc (Fu _) _) (Fu _)) (Fu _) (by simp;omega) (HB.out.alloc hsz _)
   go_ret
   exact ⟨_,rfl,by simpa [Xa,hk'] using own2,hbel⟩
def Rj (s:ByteArray) (c:UInt8) (k:Nat):List ByteArray × Nat:=if k≤s.size then Qc s c k else (Xa s c,s.size+1)
theorem Oy (s:ByteArray) (c:UInt8) (w:World) (hs:s.size≤2097152):
  Calls prog 63 #[.string s, .int .u8 c.toNat] w (Gz w 9 1 (Xa s c).length ((Xa s c).map .string)):=by
 obtain ⟨i0,hi,hz0,hz1,hz2⟩:=info_parts info_str
 have H0:=Fs (show Rj s c 0=([],0) by simp [Rj,Qc])
 go_enter func63,ntmps63
 go_wp2
 go_loopw [5,6,7] (fun o f i wr=> ∃k:Nat,k≤s.size+1∧i= .int .i64 k∧f= .int .i64 (Rj s c k).2∧wr.ownsRow w.heap.size 9 1 o (Rj s c k).1.length ((Rj s c k).1.map .string)∧Below w.heap.size w wr) (fun _ _ i _=> s.size+1 - (intOf i).toNat)
 case atStart=> exact ⟨0,Eb _,rfl,by rw [H0.out];rfl,by rw [H0.out];exact Ps _ _ _,(Fv _ _).alloc (Fu _) _⟩
 case round=>
  obtain ⟨k,hk,rfl,rfl,hown,hb⟩:=hrel
  by_cases hle:k≤s.size
  ·rw [show Rj s c k=Qc s c k from if_pos hle] at*
   obtain ⟨hb1,hb2⟩:=Oh s c k
   have HO:=Fs hown
   have HB:=Fs hb
   have hsz:=hb.size
   clear hown hb H0
   by_cases hlt:k < s.size
   ·have hne:((k:Int)==(s.size:Int))=false:=by rw [beq_eq_false_iff_ne];omega
    by_cases he:s[k]=c
    ·have hbe:((s[k].toNat:Int)==(c.toNat:Int))=true:=by rw [he];simp
     have hp:=Lu s c k hlt he
     have HP:=Fs (show Rj s c (k+1)=((Qc s c k).1++ [s.extract (Qc s c k).2 k],k+1) by rw [←hp];exact if_pos (by omega))
     clear hp
     go_wp2_with (at_builtin;refine Xv _ rfl (.tmp 26) (.tmp 31) 47 rfl w.heap.size 9 i0 (.string ⟨#[]⟩) 1 16 underlying47 hi hz0 hz1 hz2 rfl (by decide) _ (Qc s c k).1.length _ rfl (Qb HO.out ((Fv _ _).alloc (Fu _) _) (Fu _)) _ 1 _ [.string (s.extract (Qc s c k).2 k)] rfl (Rw rfl) (by simp [Value.oneCell']) (by omega) (by unfold maxLen;omega) (by simp;omega) ?_;intro v2 w2 own2 hg2 _)
     have hbel:=Px hg2 (Qb HO.out ((Fv _ _).alloc (Fu _) _) (Fu _)) (Fu _) (by simp;omega) (HB.out.alloc hsz _)
     have H:=Fs (Ft own2 hbel)
     clear own2 hg2 hbel HO HB
     go_roundw
     case rel=> exact ⟨k+1,by omega,by go_num,by rw [HP.out];go_num,by rw [HP.out];simpa using H.out.1,H.out.2⟩
     case measure=> simp [intOf];omega
    ·have hbe:((s[k].toNat:Int)==(c.toNat:Int))=false:=by
      rw [beq_eq_false_iff_ne];intro hx;exact he (UInt8.toNat_inj.1 (by omega))
     have hp:=Mb s c k hlt he
     have HP:=Fs (show Rj s c (k+1)=Qc s c k by rw [←hp];exact if_pos (by omega))
     clear hp
     go_wp2
     go_roundw
     case rel=> exact ⟨k+1,by omega,by go_num,by rw [HP.out],by rw [HP.out];exact HO.out,HB.out⟩
     case measure=> simp [intOf];omega
   ·have hks:k=s.size:=by omega
    have heq:((k:Int)==(s.size:Int))=true:=by rw [hks];simp
    have HP:=Fs (show Rj s c (k+1)=((Qc s c k).1++ [s.extract (Qc s c k).2 k],k+1) by rw [hks];exact if_neg (by omega))
    have hge:s.size≤k:=by omega
    clear hks
    go_wp2_with (at_builtin;refine Xv _ rfl (.tmp 26) (.tmp 31) 47 rfl w.heap.size 9 i0 (.string ⟨#[]⟩) 1 16 underlying47 hi hz0 hz1 hz2 rfl (by decide) _ (Qc s c k).1.length _ rfl (Qb HO.out ((Fv _ _).alloc (Fu _) _) (Fu _)) _ 1 _ [.string (s.extract (Qc s c k).2 k)] rfl (Rw rfl) (by simp [Value.oneCell']) (by omega) (by unfold maxLen;omega) (by simp;omega) ?_;intro v2 w2 own2 hg2 _)
    have hbel:=Px hg2 (Qb HO.out ((Fv _ _).alloc (Fu _) _) (Fu _)) (Fu _) (by simp;omega) (HB.out.alloc hsz _)
    have H:=Fs (Ft own2 hbel)
    clear own2 hg2 hbel HO HB
    go_roundw
    case rel=> exact ⟨k+1,by omega,by go_num,by rw [HP.out];go_num,by rw [HP.out];simpa using H.out.1,H.out.2⟩
    case measure=> simp [intOf];omega
  ·rw [show Rj s c k=(Xa s c,s.size+1) from if_neg hle] at*
   have H:=Fs (Ft hown hb)
   clear hown hb H0
   go_wp2
   go_ret
   exact ⟨_,rfl,H.out.1,H.out.2⟩
theorem Hn (s:ByteArray) (c:UInt8) (k:Nat) (hk:k≤s.size):∀p∈(Qc s c k).1,p.size≤s.size:=by
 induction k with
 |zero=> simp [Qc]
 |succ k ih=>
  intro p hp
  simp only [Qc] at hp
  split at hp
  ·rcases List.mem_append.1 hp with h|h
   ·exact ih (by omega) p h
   ·simp only [List.mem_singleton] at h;subst h
    rw [ByteArray.size_extract];omega
  ·exact ih (by omega) p hp
theorem Rv (s:ByteArray) (c:UInt8):∀p∈Xa s c,p.size≤s.size:=by
 intro p hp
 rcases List.mem_append.1 hp with h|h
 ·exact Hn s c _ (Fu _) p h
 ·simp only [List.mem_singleton] at h;subst h
  rw [ByteArray.size_extract];omega
theorem Up (s:ByteArray) (c:UInt8):(Xa s c).length≤s.size+1∧1≤(Xa s c).length:=by
 have:=(Oh s c s.size).2
 simp only [Xa,List.length_append,List.length_singleton];omega
theorem Mc (s:ByteArray) (c:UInt8) (k:Nat) (h1:1≤k) (hk:k≤s.size):
  (s.data[0]?=some c→∃t,(Qc s c k).1=s.extract 0 0::t)∧
  (s.data[0]?≠some c→((Qc s c k).1= []∧(Qc s c k).2=0)∨∃j t,1≤j∧j < k∧(Qc s c k).1=s.extract 0 j::t):=by
 induction k with
 |zero=> omega
 |succ k ih=>
  by_cases hz:k=0
  ·subst hz
   constructor
   ·intro h;exact ⟨[],by simp [Qc,h]⟩
   ·intro h;exact .inl (by simp [Qc,h])
  ·obtain ⟨i1,i2⟩:=ih (by omega) (by omega)
   constructor
   ·intro h
    obtain ⟨t,ht⟩:=i1 h
    simp only [Qc]
    split
    ·exact ⟨t++ [s.extract (Qc s c k).2 k],by rw [ht];rfl⟩
    ·exact ⟨t,ht⟩
   ·intro h
    simp only [Qc]
    rcases i2 h with ⟨e1,e2⟩|⟨j,t,hj1,hj2,ht⟩
    ·split
     ·exact .inr ⟨k, [],by omega,by omega,by rw [e1,e2];rfl⟩
     ·exact .inl ⟨e1,e2⟩
    ·split
     ·exact .inr ⟨j,t++ [s.extract (Qc s c k).2 k],hj1,by omega,by rw [ht];rfl⟩
     ·exact .inr ⟨j,t,hj1,by omega,ht⟩
theorem Og (s:ByteArray) (c:UInt8) (h:s.data[0]?=some c):∃t,Xa s c=s.extract 0 0::t∧t≠ []:=by
 have hs:1≤s.size:=by
  have:0 < s.data.size:=(Array.getElem?_eq_some_iff.1 h).1
  exact this
 obtain ⟨t,ht⟩:=(Mc s c s.size hs (Fu _)).1 h
 exact ⟨t++ [s.extract (Qc s c s.size).2 s.size],by rw [Xa,ht];rfl,by simp⟩
theorem Lo (s:ByteArray) (c:UInt8) (hs:1≤s.size) (h:s.data[0]?≠some c):∃p t,Xa s c=p::t∧1≤p.size:=by
 rcases (Mc s c s.size hs (Fu _)).2 h with ⟨e1,e2⟩|⟨j,t,hj1,hj2,ht⟩
 ·exact ⟨s.extract 0 s.size, [],by rw [Xa,e1,e2];rfl,by rw [ByteArray.size_extract];omega⟩
 ·exact ⟨s.extract 0 j,t++ [s.extract (Qc s c s.size).2 s.size],by rw [Xa,ht];rfl,by rw [ByteArray.size_extract];omega⟩
def Gx (l:List ByteArray) (lo hi:Nat) (w:World) (v:Value):Prop:=
 Sl w hi 1 v l.length (l.map .string)∧(∀ad n c,v= .slice (some ad) n c→lo≤ad.block)∧hi≤w.heap.size
theorem Gx.keep {l:List ByteArray} {lo hi lo' hi':Nat} {w w':World} {v:Value} (h:Gx l lo hi w v) (ho:Xq lo' hi' w w') (hd:hi≤lo'∨hi'≤lo):Gx l lo hi w' v:=by
 obtain ⟨⟨hl,A,c,rfl,hc,hm,hr⟩,hlo,hh⟩:=h
 refine ⟨⟨hl,A,c,rfl,hc,hm,fun hn=> ?_⟩,hlo,Nat.le_trans hh ho.size⟩
 obtain ⟨b,off,e,hb,hcell⟩:=hr hn
 refine ⟨b,off,e,hb,fun j u hu=> ho.cell (hcell j u hu) ?_⟩
 subst e
 have:=hlo _ _ _ rfl
 show b < lo'∨hi'≤b
 have h2:lo≤b:=this
 omega
theorem Gx.sl {l:List ByteArray} {lo hi:Nat} {w:World} {v:Value} (h:Gx l lo hi w v):Va w w.heap.size v l:=h.1.more h.2.2
theorem Gx.more {l:List ByteArray} {lo hi hi':Nat} {w:World} {v:Value} (h:Gx l lo hi w v) (h1:hi≤hi') (h2:hi'≤w.heap.size):Gx l lo hi' w v:=
 ⟨h.1.more h1,h.2.1,h2⟩
theorem Gx.of_own {l:List ByteArray} {lo:Nat} {w:World} {v:Value} (h:w.ownsRow lo 9 1 v l.length (l.map .string)):Gx l lo w.heap.size w v:=by
 refine ⟨Sl.of_own h,?_,Fu _⟩
 rcases h.2 with ⟨rfl,_⟩|⟨g,cap,cur,rfl,hb,_⟩
 ·intro ad n c e;cases e
 ·intro ad n c e;cases e;exact hb
theorem Gx.cut {x:ByteArray} {l:List ByteArray} {lo:Nat} {w:World} {A:Option Addr} {c:Nat} (h:w.ownsRow lo 9 1 (.slice A (l.length+1) c) (l.length+1) ((x::l).map .string)):
  Gx l lo w.heap.size w (.slice (cutA A c 1 1) (l.length+1 - 1) (c - 1)):=by
 have h0:Gx (x::l) lo w.heap.size w (.slice A (l.length+1) c):=Gx.of_own h
 obtain ⟨hs,hlo,hh⟩:=h0
 have hcm:l.length+1≤c∧c≤maxLen:=by
  obtain ⟨_,A',c',e,h1,h2,_⟩:=hs
  cases e;exact ⟨h1,h2⟩
 have h1:=Sl.cutA hs 1 (l.length+1) c (by omega) (by simp) hcm.1 hcm.2 (by decide)
 simp only [Nat.add_sub_cancel,Nat.mul_one,List.map_cons,List.drop_succ_cons,List.drop_zero] at h1
 rw [List.take_of_length_le (by simp)] at h1
 refine ⟨by simpa using h1,?_,hh⟩
 intro ad n c' e
 simp only [Value.slice.injEq] at e
 obtain ⟨e1,_,_⟩:=e
 unfold Proofs.YteldgdelmaeokaaGreatDoor.cutA at e1
 split at e1
 ·subst e1;exact hlo _ _ _ rfl
 ·cases A with
  |none=> cases e1
  |some a=>
   simp only [Option.map_some,Option.some.injEq] at e1
   subst e1
   have:=hlo a _ _ rfl
   have e2:(a.add (1*1)).block=a.block:=by unfold Addr.add;split <;> rfl
   rw [e2];exact this
def Hw (s:ByteArray):List ByteArray:=(Xa s 47).tail
def Qt (isS:ByteArray→Bool) (s:ByteArray):Bool:=s.size==0||(decide (s.data[0]?=some 47) && (Hw s).all isS)
def Yr (isS:ByteArray→Bool) (s:ByteArray):List ByteArray:=if s.size≠0∧Qt isS s=true then Hw s else []
def RdB (l:List ByteArray) (b:Bool) (w:World) (e:Ending) (w':World):Prop:=
 ∃v,e= .returned (.tuple #[v, .bool b])∧Gx l w.heap.size w'.heap.size w' v∧Below w.heap.size w w'
theorem Ld {w:World} {lo g:Nat} {o:Obj} (hg:g=w.heap.size) (hl:lo≤g):Gx [] lo (w.alloc o).heap.size (w.alloc o) (.slice (some ⟨g,0,none⟩) 0 0):=
 ⟨⟨by simp,_,_,rfl,Fu _,Eb _,fun h=> absurd h (by simp)⟩,fun ad n c e=> by cases e;exact hl,Fu _⟩
def FreeB (b g:Nat) (W:World):Prop:=∀v,W.cell? ⟨b,0,none⟩=some v→v.ownBlock≠some g
def Fr (b:Nat) (W W':World):Prop:=
 W.heap.size≤W'.heap.size∧∀g row t m,g≠b→W.heap[g]?=some (.cells row t m)→FreeB b g W→W'.heap[g]?=W.heap[g]?∧FreeB b g W'
theorem Fr.refl (b:Nat) (W:World):Fr b W W:=⟨Fu _,fun _ _ _ _ _ _ h=> ⟨rfl,h⟩⟩
theorem Fr.trans {b:Nat} {A B C:World} (h:Fr b A B) (k:Fr b B C):Fr b A C:=by
 refine ⟨Nat.le_trans h.1 k.1,fun g row t m hn hg hf=> ?_⟩
 obtain ⟨e1,f1⟩:=h.2 g row t m hn hg hf
 obtain ⟨e2,f2⟩:=k.2 g row t m hn (e1.trans hg) f1
 exact ⟨e2.trans e1,f2⟩
theorem Ub {A B:World} {b i:Nat} (h:B.heap[b]?=A.heap[b]?):B.cell? ⟨b,i,none⟩=A.cell? ⟨b,i,none⟩:=by
 simp only [World.cell?,h]
theorem Fr.putObj {b:Nat} {W:World} {l:Nat} {o:Obj} (o':Obj) (hb:b≠l) (h:W.heap[l]?=some o) (ho:o.isCells=false):Fr b W (W.putObj l o'):=by
 refine ⟨by simp,fun g row t m _ hg hf=> ?_⟩
 have hgl:g≠l:=by rintro rfl;rw [hg] at h;cases h;cases ho
 refine ⟨World.putObj_heap_other (fun e=> hgl (by omega)),fun v hv=> hf v ?_⟩
 rw [←hv];exact (Ub (World.putObj_heap_other (by omega))).symm
theorem Fr.below {b:Nat} {W W':World} (hb:b < W.heap.size) (h:Below W.heap.size W W'):Fr b W W':=by
 refine ⟨h.size,fun g row t m _ hg hf=> ⟨h.block g (Array.getElem?_eq_some_iff.1 hg).1,fun v hv=> hf v ?_⟩⟩
 rw [←hv];exact (Ub (h.block b hb)).symm
theorem Fr.appended {b:Nat} {W w1:World} {t:TypeId} {v v':Value} {tmp:Obj} (hv:Boxed W b t v) (hv1:Boxed w1 b t v) (hgrow:(W.alloc tmp).grownBy w1 v.ownBlock)
  (hob:v'.ownBlock=v.ownBlock∨v'.ownBlock=some (W.alloc tmp).heap.size):Fr b W (w1.setCell ⟨b,0,none⟩ v'):=by
 have hsz:W.heap.size+1≤w1.heap.size:=by have:=hgrow.size;simpa using this
 have hcell:=(hv1.set v').cell
 refine ⟨by simp;omega,fun g row t m hn hg hf=> ?_⟩
 have hgs:g < W.heap.size:=(Array.getElem?_eq_some_iff.1 hg).1
 have hne:=hf v hv.cell
 refine ⟨?_,fun u hu=> ?_⟩
 ·refine (Below.heap_setCell _ _ _ g (by show g≠b;exact hn)).trans ((hgrow.block g (by simp;omega) (fun e=> hne e.symm)).trans ?_)
  exact Below.heap_alloc _ _ _ hgs
 ·rw [hcell] at hu;cases hu
  rcases hob with h|h
  ·rw [h];exact hne
  ·rw [h];simp;omega
theorem Od {W W':World} (h:Below W.heap.size W W'):W.grownBy W' none:=⟨h.os,h.tape,h.output,h.size,fun k hk _=> h.block k hk⟩
attribute [local go_sem] Oper.semAt_some
theorem own_tail {W:World} {lo:Nat} {v:Value} {f:ByteArray} {t:List ByteArray} (h:W.ownsRow lo 9 1 v (t.length+1) ((f::t).map .string)):
  ∃p c o,v= .slice (some ⟨p,0,none⟩) (t.length+1) c∧lo≤p∧(∃row m,W.heap[p]?=some (.cells row 9 m))∧t.length+1≤c∧c≤maxLen∧
   cutA (some ⟨p,0,none⟩) c 1 1=some ⟨p,o,none⟩∧∀k (hk:k < t.length),W.cell? ⟨p,o+k,none⟩=some (.string t[k]):=by
 obtain ⟨A,c',e,hc',hm',hcell⟩:=(own_strs (l:=f::t) h).one
 rcases h.2 with ⟨rfl,h0⟩|⟨g,cap,cur,rfl,hb,hg,hc,hm,hs,ht⟩
 ·omega
 ·cases e
  have hcl:∀k (hk:k < t.length+1),W.cell? ⟨g,0+k,none⟩=some (.string ((f::t)[k]'(by simpa using hk))):=by
   intro k hk
   obtain ⟨b',off',e',_,h'⟩:=hcell k (by simpa using hk)
   cases e'
   exact h'
  refine ⟨g,c',if c'=1 then 0 else 1,rfl,hb,⟨_,_,hg⟩,by simpa using hc',hm',?_,fun k hk=> ?_⟩
  ·unfold cutA
   split
   ·rfl
   ·rfl
  ·have hc1:¬c'=1:=by simp at hc';omega
   rw [if_neg hc1]
   have:=hcl (k+1) (by omega)
   rw [show 0+(k+1)=1+k by omega] at this
   exact this
abbrev SmT:={ x:ByteArray // x.size≤2097152 }
def smT (l:List ByteArray) (h:∀p∈l,p.size≤2097152):List SmT:=l.attach.map fun p=> ⟨p.1,h p.1 p.2⟩
theorem smT_val (l:List ByteArray) (h:∀p∈l,p.size≤2097152):(smT l h).map (·.1)=l:=by
 simp [smT]
theorem stepsOf1_in (n:Nat) (hn:1≤n) (l Bp b:Nat) (s f:ByteArray) (t:List SmT) (hft:Xa s 47=f::t.map (·.1)) (hs:s.size≤2097152) (J Jx:List SmT→World→Prop) (W:World) (hJ:AbidesFrom W.heap.size J)
  (hY:∀pre x W1,J pre W1→pre.length < t.length→YieldAt Fence.wide (n - 1) prog l #[.string x.1] W1 fun e W'=>
    (e= .returned (.bool true)∧J (pre++ [x]) W'∧Fr b W1 W')∨(e= .returned (.bool false)∧Jx (pre++ [x]) W'))
  (hBp:W.cell? ⟨Bp,0,none⟩=some (.string s)) (hb:b < W.heap.size) (hfree:∀v,W.cell? ⟨b,0,none⟩=some v→∀g,v.ownBlock=some g→g < W.heap.size) (h0:J [] W):
  CallsIn Fence.wide n prog 93 #[.func (.yield l) #[] #[], .pointer (some ⟨Bp,0,none⟩)] W fun e W'=> (∃v,e= .returned v)∧((∃ys,ys=t∧J ys W')∨(∃pre,pre <+:t∧Jx pre W')):=by
 have hC:∀w':World,Calls prog 94 #[.string s, .int .u8 47] w' (Gz w' 9 1 ((t.map (·.1)).length+1) ((f::t.map (·.1)).map .string)):=fun w'=> by
  have:=Mk s 47 w' hs
  rw [hft] at this
  exact this
 have hlen:=(Up s 47).1
 rw [hft,List.length_cons,List.length_map] at hlen
 have HC:=Fs hC
 have HY:=Fs hY
 have HF:=Fs hfree
 clear hC hY hfree hft
 refine callsIn_of_wp func93 rfl trivial ?_ rfl
 simp only [ntmps93,List.size_toArray,List.length_cons,List.length_nil,Nat.reduceAdd,Nat.reduceSub,Array.replicate_succ,Array.replicate_zero,List.push_toArray,List.append_toArray,List.nil_append,List.cons_append]
 gi_wp2_with fail
 refine ⟨trivial,(callsIn_wide.2 (HC.out W)).mono ?_⟩
 rintro e W1 ⟨v,rfl,hown,hb1⟩
 obtain ⟨p,c,o,rfl,hpW,⟨row,m,hp⟩,hc,hm,hcut,hcell⟩:=own_tail hown
 rw [List.length_map] at hc
 have hcell:∀k (hk:k < t.length),W1.cell? ⟨p,o+k,none⟩=some (.string t[k].1):=fun k hk=> by
  rw [hcell k (by simpa using hk),List.getElem_map]
 rw [List.length_map]
 have hcr:=Ma (P:=prog) underlying47 sizeOf9 (some ⟨p,0,none⟩) (t.length+1) c 1 1 rfl (by omega)
 rw [hcut] at hcr
 have hJ1:J [] W1:=hJ _ _ _ none h0 (Od hb1) (fun r e=> by cases e)
 have hfr:FreeB b p W1:=by
  intro u hu hug
  have:=HF.out u (by rw [←hu];exact (Ub (hb1.block b hb)).symm) p hug
  omega
 have hpb:p≠b:=by omega
 have HCe:=Fs hcell
 unfold maxLen at hm
 clear hcell hown hcut h0 HF
 gi_wp2
 gi_loopw [9] (fun i wr=> ∃k:Nat,k≤t.length∧i= .int .i64 k∧J (t.take k) wr∧wr.heap[p]?=W1.heap[p]?∧FreeB b p wr) (fun i _=> t.length - (intOf i).toNat)
 case atStart=> exact ⟨0,Eb _,rfl,hJ1,rfl,hfr⟩
 case round=>
  obtain ⟨k,hk,rfl,hJs,hpk,hfk⟩:=hrel
  by_cases hlt:k < t.length
  ·have hcx:=(Ub hpk).trans (HCe.out k hlt)
   obtain ⟨fn,tmps,assign,body,hy,hR⟩:=HY.out (t.take k) t[k] wr hJs (by rw [List.length_take];omega)
   have hsucc:t.take k++ [t[k]]=t.take (k+1):=(List.take_succ_eq_append_getElem hlt).symm
   rw [hsucc] at hR
   clear hsucc
   have HP:=Fs hpk
   have HFk:=Fs hfk
   clear hpk hfk
   gi_wp2
   refine hR.mono ?_
   rintro e W3 (⟨rfl,hJ3,hk3⟩|⟨rfl,hJx3⟩)
   ·obtain ⟨e3,f3⟩:=hk3.2 p row 9 m hpb (HP.out.trans hp) HFk.out
    have H3:=Fs (Ft (e3.trans HP.out) f3)
    clear e3 f3 hk3
    gi_wp2
    go_roundw
    case rel=> exact ⟨k+1,by omega,by simp,hJ3,H3.out.1,H3.out.2⟩
    case measure=> simp [intOf];omega
   ·gi_wp2
    refine bodyPost_ret (results_none rfl _ _ _) rfl ?_
    exact ⟨⟨_,rfl⟩, .inr ⟨_,List.take_prefix _ _,hJx3⟩⟩
  ·obtain rfl:k=t.length:=by omega
   rw [List.take_length] at hJs
   clear hpk
   gi_wp2
   go_end0
   exact ⟨⟨_,rfl⟩, .inl ⟨_,rfl,hJs⟩⟩
theorem stepsOf_in (n:Nat) (s:ByteArray) (w:World):
  CallsIn Fence.wide n prog 83 #[.string s] w fun e w'=> e= .returned (.func (.func 93) #[] #[.pointer (some ⟨w.heap.size,0,none⟩)])∧w'=w.alloc (.cells #[.string s] 9):=by
 have hmf:∀(fn:Fn) (first cap:Array Value) (w:World),(Instr.makeFunc fn first cap).run prog w= .ok (.func fn first cap) w:=fun _ _ _ _=> rfl
 refine callsIn_of_wp func83 rfl trivial ?_ rfl
 simp only [ntmps83,List.size_toArray,List.length_cons,List.length_nil,Nat.reduceAdd,Nat.reduceSub,Array.replicate_succ,Array.replicate_zero,List.push_toArray,List.append_toArray,List.nil_append,List.cons_append]
 gi_wp2
 go_ret
 exact ⟨rfl,rfl⟩
theorem Hk (n:Nat) (hn:1≤n) (Bp b:Nat) (s f:ByteArray) (t:List SmT) (hft:Xa s 47=f::t.map (·.1)) (hs:s.size≤2097152) (w:World)
  (hBp:Bp < w.heap.size) (hc:w.cell? ⟨Bp,0,none⟩=some (.string s)) (hb:b < w.heap.size) (hfree:∀v,w.cell? ⟨b,0,none⟩=some v→∀g,v.ownBlock=some g→g < w.heap.size):
  SeqStopsK Fence.wide n prog 93 #[.pointer (some ⟨Bp,0,none⟩)] (fun x:SmT=> #[Value.string x.1]) (Fr b) (fun ys=> ys=t) (fun pre=> pre <+:t) t.length w:=fun l J Jx W hW hJ _ hY h0=>
 stepsOf1_in n hn l Bp b s f t hft hs J Jx W hJ hY ((hW.cell (p:=⟨Bp,0,none⟩) hBp).trans hc) (by have:=hW.size;omega)
  (fun v hv g hg=> by
    have:=hfree v (by rw [←hv];exact (Ub (hW.block b hb)).symm) g hg
    have:=hW.size
    omega) h0
attribute [local go_sem] Oper.semAt_some
theorem Uc {W:World} {g:Nat} {t:TypeId} {v:Value} (h:g=W.heap.size):Boxed (W.alloc (.cells #[v] t)) g t v:=by subst h;exact Boxed.new _ _ _
theorem Hr {B:Nat} (W:World) (o:Obj) (h:B≤W.heap.size):Below B W (W.alloc o):=(Fv _ _).alloc h o
def OwSB (l:List ByteArray) (b:Bool) (w:World) (e:Ending) (w':World):Prop:=
 ∃v,e= .returned (.tuple #[v, .bool b])∧w'.ownsRow w.heap.size 9 1 v l.length (l.map .string)∧Below w.heap.size w w'
theorem Ib (s:ByteArray) (w:World) (hs:s.size≤2097152):
  Calls prog 72 #[.string s, .func (.func 73) #[] #[]] w (OwSB (Yr Zf s) (Qt Zf s) w):=by
 by_cases hz:s.size=0
 ·have HK:=Fs (show Qt Zf s=true by simp [Qt,hz])
  have HL:=Fs (show Yr Zf s= [] by simp [Yr,hz])
  have he:s=⟨#[]⟩:=by
   apply ByteArray.ext
   exact Array.eq_empty_of_size_eq_zero hz
  subst he
  clear hz hs
  go_enter func72,ntmps72
  go_wp2
  refine bodyPost_ret (v:= .tuple #[.slice (some ⟨w.heap.size+1+1+1,0,none⟩) 0 0, .bool true]) (by simp [results,f72,go_sem]) rfl ?_
  rw [OwSB,HK.out,HL.out]
  exact ⟨_,rfl,(Ji (by simp) (by omega)).alloc _,(by repeat (first|exact Fv _ _|assumption|refine Below.alloc ?_ (by first|omega|(simp <;> omega)) _|refine Below.setCell ?_ (by first|omega|(simp <;> omega)) _|refine Below.drew ?_|refine Yn ?_ _))⟩
 ·have hpos:1≤s.size:=by omega
  have hne:(s.toList== [])=false:=by
   rw [beq_eq_false_iff_ne,ByteArray.toList_eq]
   intro h
   exact hz (by have:=congrArg List.length h;simpa using this)
  by_cases h0:s[0]=47
  ·have hb:s.data[0]?=some 47:=by rw [Kk s 0 hpos];simpa using h0
   obtain ⟨t,hft,htn⟩:=Og s 47 hb
   have htl:Hw s=t:=by rw [Hw,hft];rfl
   have hk:Qt Zf s=t.all Zf:=by simp [Qt,hz,hb,htl]
   have HK:=Fs hk
   have HL:=Fs (show Yr Zf s=if t.all Zf=true then t else [] by simp [Yr,hz,hk,htl])
   have hlen:=(Up s 47).1
   have hszs:=Rv s 47
   have hbe:((s[0].toNat:Int)==47)=true:=by rw [h0];rfl
   obtain ⟨i0,hi,hz0,hz1,hz2⟩:=info_parts info_str
   rw [hft] at hlen hszs
   simp only [List.length_cons] at hlen
   have HFT:=Fs hft
   have HSZ:=Fs hszs
   clear hk hz h0 hb htl hft hszs htn
   refine (callsIn_wide (n:=5)).1 ?_
   refine callsIn_of_wp_marks func72 rfl trivial ?_ rfl
   simp only [ntmps72,List.size_toArray,List.length_cons,List.length_nil,Nat.reduceAdd,Nat.reduceSub,Array.replicate_succ,Array.replicate_zero,List.push_toArray,List.append_toArray,List.nil_append,List.cons_append]
   gi_wp2_with fail
   refine ⟨trivial,(stepsOf_in _ s _).mono ?_⟩
   rintro e w' ⟨rfl,rfl⟩
   gi_wp2_with fail
   obtain ⟨W0,hW0⟩:∃W0,((((((w.alloc (.cells #[.func (.func 73) #[] #[]] 88)).alloc (.cells #[.slice none 0 0] 47)).alloc (.cells #[.bool false] 4)).alloc (.cells #[] 9)).alloc (.cells #[.slice (some ⟨w.heap.size+1+1+1,0,none⟩) 0 0] 47)).alloc (.cells #[.string s] 9))=W0:=⟨_,rfl⟩
   have hsz:W0.heap.size=w.heap.size+6:=by rw [←hW0];simp
   have bA:Boxed W0 w.heap.size 88 (.func (.func 73) #[] #[]):=by
    rw [←hW0];exact (((((Uc rfl).alloc _).alloc _).alloc _).alloc _).alloc _
   have bR:Boxed W0 (w.heap.size+1) 47 (.slice none 0 0):=by
    rw [←hW0];exact ((((Uc (by simp)).alloc _).alloc _).alloc _).alloc _
   have bO:Boxed W0 (w.heap.size+1+1) 4 (.bool false):=by
    rw [←hW0];exact (((Uc (by simp)).alloc _).alloc _).alloc _
   have bS:Boxed W0 (w.heap.size+1+1+1+1) 47 (.slice (some ⟨w.heap.size+1+1+1,0,none⟩) 0 0):=by
    rw [←hW0];exact (Uc (by simp)).alloc _
   have bP:Boxed W0 (w.heap.size+1+1+1+1+1) 9 (.string s):=by
    rw [←hW0];exact Uc (by simp)
   have hown:W0.ownsRow w.heap.size 9 1 (.slice (some ⟨w.heap.size+1+1+1,0,none⟩) 0 0) 0 []:=by
    rw [←hW0];exact ((Ji (by simp) (by omega)).alloc _).alloc _
   have hB0:Below w.heap.size w W0:=by
    rw [←hW0];exact (by repeat (first|exact Fv _ _|assumption|refine Below.alloc ?_ (by first|omega|(simp <;> omega)) _|refine Below.setCell ?_ (by first|omega|(simp <;> omega)) _|refine Below.drew ?_|refine Yn ?_ _))
   rw [hW0]
   clear hW0
   have hmap:(smT t (fun p hp=> by have:=HSZ.out p (List.mem_cons_of_mem _ hp);omega)).map (·.1)=t:=smT_val _ _
   obtain ⟨T,hT⟩:∃T:List SmT,T=smT t (fun p hp=> by have:=HSZ.out p (List.mem_cons_of_mem _ hp);omega):=⟨_,rfl⟩
   rw [←hT] at hmap
   have hTl:T.length=t.length:=by rw [←hmap,List.length_map]
   clear hT
   refine wpIn_rangeFunc_ownG rfl (by omega) (gf:=93) (lb:= #[.pointer (some ⟨w.heap.size+1+1+1+1+1,0,none⟩)]) rfl trivial (enters_of func93 (by kernel_rfl) rfl)
    (Hk (5 - 1) (by omega) (w.heap.size+1+1+1+1+1) (w.heap.size+1+1+1+1) s _ T (by rw [hmap];exact HFT.out) hs W0 (by omega) bP.cell (by omega)
      (fun v hv g hg=> by rw [bS.cell] at hv;cases hv;cases hg;show w.heap.size+1+1+1 < W0.heap.size;omega))
    Fr.trans (fun W l o o' hl h ho _=> Fr.putObj (b:=w.heap.size+1+1+1+1) o' (by omega) h ho) (Fv _ _) (fun _=> rfl)
    (fun pre W=> (∃v,Boxed W (w.heap.size+1+1+1+1) 47 v∧W.ownsRow w.heap.size 9 1 v pre.length (pre.map fun x=> Value.string x.1)∧True)∧Boxed W w.heap.size 88 (.func (.func 73) #[] #[])∧Boxed W (w.heap.size+1) 47 (.slice none 0 0)∧Boxed W (w.heap.size+1+1) 4 (.bool false)∧(∀x∈pre,Zf x.1=true)∧Below w.heap.size w W)
    (fun c pre W=> (∃v,Boxed W (w.heap.size+1) 47 v∧W.ownsRow w.heap.size 9 1 v 0 []∧True)∧Boxed W (w.heap.size+1+1) 4 (.bool false)∧(c= .ret∧∃x∈pre,Zf x.1=false)∧Below w.heap.size w W)
    (OwnFrom.and (Own.from (holdsRow_own w.heap.size (w.heap.size+1+1+1+1) 47 9 1 (fun pre:List SmT=> pre.length) (fun pre:List SmT=> pre.map fun x=> Value.string x.1) (fun _ _=> True)) _)
      (OwnFrom.and (Own.from (boxed_own _ _ _) _) (OwnFrom.and (Own.from (boxed_own _ _ _) _) (OwnFrom.and (Own.from (boxed_own _ _ _) _) (OwnFrom.and (ownFrom_pure _ _) (ownFrom_below (Fu _) (by omega)))))))
    (fun c=> OwnFrom.and (Own.from (holdsRow_own w.heap.size (w.heap.size+1) 47 9 1 (fun _=> 0) (fun _=> []) (fun _ _=> True)) _)
      (OwnFrom.and (Own.from (boxed_own _ _ _) _) (OwnFrom.and (ownFrom_pure _ _) (ownFrom_below (Fu _) (by omega)))))
    ⟨⟨_,bS,hown,trivial⟩,bA,bR,bO,by simp,hB0⟩
    (fun x=> { tmps:= #[.string s, .func (.func 73) #[] #[],undef, .pointer (some ⟨w.heap.size,0,none⟩), .pointer (some ⟨w.heap.size+1,0,none⟩), .pointer (some ⟨w.heap.size+1+1,0,none⟩), .pointer (some ⟨w.heap.size+1+1+1+1,0,none⟩), .string x.1, .slice (some ⟨w.heap.size+1+1+1,0,none⟩) 0 0, .string s, .bool false,undef, .string s, .int .u8 s[0].toNat, .bool false,undef, .string s, .func (.func 93) #[] #[.pointer (some ⟨w.heap.size+1+1+1+1+1,0,none⟩)], .string x.1,undef,undef,undef,undef,undef,undef,undef,undef,undef,undef],defers:= [] }) ?assign ?body ?done ?stop
   case assign=>
    intro l x W K hK
    gi_wp2
    exact hK
   case body=>
    rintro l pre x W ⟨⟨v,hv,hrow, -⟩,bA,bR,bO,hall,hB⟩ hlt
    have cA:=bA.cell
    have hv0:=hv
    have cR:=bR.cell
    have fR:=bR.frozen
    have cO:=bO.cell
    have fO:=bO.frozen
    have cS:=hv.cell
    have hx2:=x.2
    gi_wp2_with fail
    refine ⟨trivial,(CallsIn.inRound l (callsIn_wide.2 (Iv x.1 W (by unfold maxLen;omega)))).mono ?_⟩
    rintro e W1 ⟨rfl,hb1⟩
    have hg1:=Od hb1
    have hnn:∀b:Nat,some b≠(none:Option Nat):=fun b h=> by cases h
    have hv:=hv.kept hg1 (hnn _)
    have bA:=bA.kept hg1 (hnn _)
    have bR:=bR.kept hg1 (hnn _)
    have bO:=bO.kept hg1 (hnn _)
    have hrow:=Qb hrow hb1 (Fu _)
    have cR:=bR.cell
    have fR:=bR.frozen
    have cO:=bO.cell
    have fO:=bO.frozen
    have cS:=hv.cell
    have hs1:=hb1.size
    have hBs:=hB.size
    have hB1:=hB.trans (hb1.mono hBs)
    have hkf:KeepsFrom W0.heap.size W W1:=KeepsFrom.of_grownBy hg1 (fun j e=> by cases e)
    have hkp:Fr (w.heap.size+1+1+1+1) W W1:=Fr.below hv0.lt hb1
    have HA:=Fs (Ft hall (Ft hB1 (Ft hkf hkp)))
    clear hall hB1 hkf hkp hg1 hnn hB hb1
    generalize hbz:Zf x.1=bz at*
    have HZ:=Fs hbz
    clear hbz
    cases bz with
    |true=>
     gi_wp2_with (gi_at_builtin;refine wpListIn_append_own_at _ rfl _ _ 47 rfl w.heap.size 9 i0 (.string ⟨#[]⟩) 1 16 underlying47 hi hz0 hz1 hz2 rfl (by decide) _ _ _ rfl (hrow.alloc _) ⟨W1.heap.size,0,none⟩ 1 1 [.string x.1] rfl rfl (cell_one_new _ _ _) (by simp [Value.oneCell']) (by unfold maxLen;omega) (by omega) (by simp;omega) ?_;intro v' w1 hown' hgrow _ hob;obtain ⟨g',cap',rfl⟩:=ownsRow_succ hown';obtain ⟨hv1,hv2,hr2,hk2,hb2⟩:=hv.appended (by decide) hrow (by omega) (by omega) hown' hgrow;have kp:=Fr.appended hv hv1 hgrow hob;have hc1:=hv1.cell;have hf1:=hv1.frozen)
     obtain ⟨hall,hB1,hkf,hkp⟩:=HA.out
     have mv:∀{b:Nat} {T:TypeId} {u:Value},Boxed W1 b T u→T≠9→b≠w.heap.size+1+1+1+1→Boxed (w1.setCell ⟨w.heap.size+1+1+1+1,0,none⟩ (.slice (some ⟨g',0,none⟩) (pre.length+1) cap')) b T u:=
      fun h h1 h2=> (Boxed.kept (h.alloc _) hgrow (h.not_row h1 hrow)).other h2 _
     refine ⟨hkf.trans (hk2.from _),hkp.trans kp,⟨_,hv2,by simpa using hr2,trivial⟩,mv bA (by decide) (by omega),mv bR (by decide) (by omega),mv bO (by decide) (by omega),?_,hB1.trans hb2⟩
     intro y hy
     rcases List.mem_append.1 hy with h|h
     ·exact hall y h
     ·simp only [List.mem_singleton] at h
      subst h
      exact HZ.out
    |false=>
     have bR1:=bR.alloc (.cells #[] 9)
     have bO1:=bO.alloc (.cells #[] 9)
     have cR1:=bR1.cell
     have fR1:=bR1.frozen
     have bO2:=bO1.other (B':=w.heap.size+1) (by omega) (.slice (some ⟨W1.heap.size,0,none⟩) 0 0)
     have cO2:=bO2.cell
     have fO2:=bO2.frozen
     gi_wp2
     obtain ⟨hall,hB1,hkf,hkp⟩:=HA.out
     have hne2:w.heap.size+1≠w.heap.size+1+1:=by omega
     have hBo:=(Ji (w:=W1) (e:=9) (size:=1) (base:=w.heap.size) rfl (by omega))
     have b1:=bR1.set (.slice (some ⟨W1.heap.size,0,none⟩) 0 0)
     have o1:=hBo.kept (grownBy_setCell' _ (w.heap.size+1) (.slice (some ⟨W1.heap.size,0,none⟩) 0 0)) (.inr (bR1.not_row (by decide) hBo).symm)
     have o2:=o1.kept (grownBy_setCell' _ (w.heap.size+1+1) (.bool false)) (.inr (bO2.not_row (by decide) o1).symm)
     refine ⟨hkf.trans (((KeepsOthers.alloc W1 _).trans ((KeepsOthers.setCell _ _ _).trans (KeepsOthers.setCell _ _ _))).from _),⟨_,b1.other hne2 _,o2,trivial⟩,bO2.set _,⟨rfl,x,List.mem_append.2 (.inr (by simp)),HZ.out⟩,?_⟩
     exact hB1.trans (((Hr W1 _ (by omega)).setCell (p:=⟨w.heap.size+1,0,none⟩) (by show w.heap.size≤w.heap.size+1;omega) _).setCell (p:=⟨w.heap.size+1+1,0,none⟩) (by show w.heap.size≤w.heap.size+1+1;omega) _)
   case done=>
    rintro D ys W hD rfl ⟨⟨v,hv,hrow, -⟩,bA,bR,bO,hall,hB⟩ hK
    have cR:=bR.cell
    have fR:=bR.frozen
    have hvs:∃A c,v= .slice A ys.length c:=by
     rcases hrow.2 with ⟨rfl,h0⟩|⟨g,cap,cur,rfl,_⟩
     ·exact ⟨none,0,by rw [h0]⟩
     ·exact ⟨_,_,rfl⟩
    obtain ⟨A,c,rfl⟩:=hvs
    have cS:=hv.cell
    have bO2:=bO.other (B':=w.heap.size+1) (by omega) (.slice A ys.length c)
    have cO2:=bO2.cell
    have fO2:=bO2.frozen
    have HT:=Fs hTl
    have HM:=Fs hmap
    clear hTl hmap
    gi_wp2
    have hall':t.all Zf=true:=by
     rw [List.all_eq_true]
     intro y hy
     rw [←HM.out] at hy
     obtain ⟨z,hz,rfl⟩:=List.mem_map.1 hy
     exact hall z hz
    have hk1:KeepsOthers W ((W.setCell ⟨w.heap.size+1,0,none⟩ (.slice A ys.length c)).setCell ⟨w.heap.size+1+1,0,none⟩ (.bool true)):=(KeepsOthers.setCell _ _ _).trans (KeepsOthers.setCell _ _ _)
    have hK':=hk1.same D _ hK rfl
    have bR2:=(bR.set (.slice A ys.length c)).other (B':=w.heap.size+1+1) (by omega) (.bool true)
    have bO3:=bO2.set (.bool true)
    have o1:=hrow.kept (grownBy_setCell' _ (w.heap.size+1) (.slice A ys.length c)) (.inr (bR.not_row (by decide) hrow).symm)
    have o2:=o1.kept (grownBy_setCell' _ (w.heap.size+1+1) (.bool true)) (.inr (bO2.not_row (by decide) o1).symm)
    have hB2:=(hB.setCell (p:=⟨w.heap.size+1,0,none⟩) (by show w.heap.size≤w.heap.size+1;omega) (.slice A ys.length c)).setCell (p:=⟨w.heap.size+1+1,0,none⟩) (by show w.heap.size≤w.heap.size+1+1;omega) (.bool true)
    have hg3:=grownBy_putObj' ((W.setCell ⟨w.heap.size+1,0,none⟩ (.slice A ys.length c)).setCell ⟨w.heap.size+1+1,0,none⟩ (.bool true)) D (.deferred none)
    have cR3:=(bR2.kept hg3 (by intro e;cases e;omega)).cell
    have cO3:=(bO3.kept hg3 (by intro e;cases e;omega)).cell
    refine ⟨by simp, .inl ⟨_,_,rfl,run_takeDeferred hK',?_⟩⟩
    refine ⟨.tuple #[.slice A ys.length c, .bool true],?_,?_⟩
    ·simp [results,f72,go_sem,cR3,cO3]
    rw [OwSB,HK.out,HL.out,hall']
    refine ⟨_,rfl,?_,hB2.trans (belowK_b (w:=w) (Fu _) _ D _ _ (by omega) hK' rfl rfl)⟩
    have:=ownsRow_putObj o2 (.deferred none) hK' rfl
    rw [if_pos rfl,←HT.out,←HM.out,List.map_map]
    exact this
   case stop=>
    rintro D c pre W hD hpre ⟨⟨v,hv,hrow, -⟩,bO,⟨rfl,x,hx,hxf⟩,hB⟩ hK
    have cR:=hv.cell
    have cO:=bO.cell
    have HM:=Fs hmap
    clear hmap
    gi_wp2
    have hall':t.all Zf=false:=by
     rw [List.all_eq_false]
     exact ⟨x.1,by rw [←HM.out];exact List.mem_map.2 ⟨x,hpre.subset hx,rfl⟩,by rw [hxf];decide⟩
    have hg3:=grownBy_putObj' W D (.deferred none)
    have cR3:=(hv.kept hg3 (by intro e;cases e;omega)).cell
    have cO3:=(bO.kept hg3 (by intro e;cases e;omega)).cell
    refine ⟨by simp, .inl ⟨_,_,rfl,run_takeDeferred hK,?_⟩⟩
    refine ⟨.tuple #[v, .bool false],?_,?_⟩
    ·simp [results,f72,go_sem,cR3,cO3]
    rw [OwSB,HK.out,HL.out,hall']
    exact ⟨_,rfl,ownsRow_putObj hrow (.deferred none) hK rfl,hB.trans (belowK_b (w:=w) (Fu _) _ D _ _ (by omega) hK rfl rfl)⟩
  ·have hk:Qt Zf s=false:=by
    have:s.data[0]?≠some 47:=by rw [Kk s 0 hpos];simpa using h0
    simp [Qt,hz,this]
   have HK:=Fs hk
   have HL:=Fs (show Yr Zf s= [] by simp [Yr,hk])
   have hbe:((s[0].toNat:Int)==47)=false:=by
    rw [beq_eq_false_iff_ne];intro hx;exact h0 (UInt8.toNat_inj.1 (by have:(47:UInt8).toNat=47:=rfl;omega))
   clear hk hz h0
   go_enter func72,ntmps72
   go_wp2
   refine bodyPost_ret (v:= .tuple #[.slice (some ⟨w.heap.size+1+1+1,0,none⟩) 0 0, .bool false]) (by simp [results,f72,go_sem]) rfl ?_
   rw [OwSB,HK.out,HL.out]
   exact ⟨_,rfl,(Ji (by simp) (by omega)).alloc _,(by repeat (first|exact Fv _ _|assumption|refine Below.alloc ?_ (by first|omega|(simp <;> omega)) _|refine Below.setCell ?_ (by first|omega|(simp <;> omega)) _|refine Below.drew ?_|refine Yn ?_ _))⟩
theorem Mm (s:ByteArray) (w:World) (hs:s.size≤2097152):
  Calls prog 57 #[.string s] w (OwSB (Yr Zf s) (Qt Zf s) w):=by
 go_enter func57,ntmps57
 go_wp2_with fail
 refine (Ib s w hs).mono ?_
 rintro e w1 ⟨v,rfl,hown,hb⟩
 have H:=Fs (Ft hown hb)
 clear hown hb
 go_wp2
 go_ret2
 exact ⟨_,rfl,H.out.1,H.out.2⟩
theorem OwSB.law {l:List ByteArray} {b:Bool} {w w':World} {e:Ending} (h:OwSB l b w e w'):∃v,e= .returned (.tuple #[v, .bool b])∧OwS l w.heap.size w'.heap.size w' v∧Below w.heap.size w w':=by
 obtain ⟨v,he,hown,hb⟩:=h
 exact ⟨v,he,⟨hown,fun g hk=> (hown.lt g hk).2⟩,hb⟩
theorem Ml (s:ByteArray) (w:World) (hs:s.size≤2097152):
  Calls prog 57 #[.string s] w fun e w'=> ∃v,e= .returned (.tuple #[v, .bool (Qt Zf s)])∧OwS (Yr Zf s) w.heap.size w'.heap.size w' v∧Below w.heap.size w w':=
 (Mm s w hs).mono fun _ _ h=> h.law
theorem Rb (s:ByteArray) (w:World) (hs:s.size≤2097152):
  Calls prog 35 #[.string s] w (RdB (Yr Zf s) (Qt Zf s) w):=by
 by_cases hz:s.size=0
 ·have hk:Qt Zf s=true:=by simp [Qt,hz]
  have hl:Yr Zf s= []:=by simp [Yr,hz]
  rw [hk,hl]
  have he:s=⟨#[]⟩:=by
   apply ByteArray.ext
   exact Array.eq_empty_of_size_eq_zero hz
  subst he
  clear hk hl hz hs
  go_enter func35,ntmps35
  go_wp2
  go_ret2
  exact ⟨_,rfl,Ld rfl (Fu _),(Fv _ _).alloc (Fu _) _⟩
 ·obtain ⟨f,t,hft⟩:∃f t,Xa s 47=f::t:=by
   have:=(Up s 47).2
   match h:Xa s 47 with
   | []=> rw [h] at this;simp at this
   |f::t=> exact ⟨f,t,rfl⟩
  have htl:Hw s=t:=by rw [Hw,hft];rfl
  have hlen:=(Up s 47).1
  have hsz:=Rv s 47
  have hC:∀w':World,Calls prog 63 #[.string s, .int .u8 47] w' (Gz w' 9 1 (t.length+1) ((f::t).map .string)):=fun w'=> by
   have:=Oy s 47 w' hs
   rw [hft] at this
   exact this
  rw [hft] at hlen hsz
  have HL:=Fs hlen
  have hne:(s.toList== [])=false:=by
   rw [beq_eq_false_iff_ne,ByteArray.toList_eq]
   intro h
   exact hz (by have:=congrArg List.length h;simpa using this)
  have hko:Qt Zf s=(decide (f.size=0) && t.all Zf):=by
   have hpos:1≤s.size:=by omega
   by_cases h0:s.data[0]?=some 47
   ·obtain ⟨t',e',ht'⟩:=Og s 47 h0
    rw [hft] at e'
    cases e'
    simp [Qt,hz,h0,htl]
   ·obtain ⟨p',t',e',hp'⟩:=Lo s 47 hpos h0
    rw [hft] at e'
    cases e'
    have:¬f.size=0:=by omega
    simp [Qt,hz,h0,this]
  have hto:f.size=0→1≤t.length:=by
   intro hf0
   by_cases h0:s.data[0]?=some 47
   ·obtain ⟨t',e',ht'⟩:=Og s 47 h0
    rw [hft] at e'
    cases e'
    cases t with
    |nil=> exact absurd rfl ht'
    |cons a b=> simp
   ·obtain ⟨p',t',e',hp'⟩:=Lo s 47 (by omega) h0
    rw [hft] at e'
    cases e'
    omega
  have hlo:Yr Zf s=if f.size=0∧t.all Zf=true then t else []:=by
   rw [Yr,hko,htl]
   simp [hz]
  have HC:=Fs hC
  have HS:=Fs hsz
  have HK:=Fs hko
  have HLo:=Fs hlo
  have HT:=Fs hto
  clear hC hsz hlen hft hko hlo htl hto
  go_enter func35,ntmps35
  go_wp2_with fail
  refine (HC.out w).mono ?_
  rintro e w1 ⟨v,rfl,hown,hb⟩
  have hcutS:=fun (A:Option Addr) (c:Nat) (h:w1.ownsRow w.heap.size 9 1 (.slice A (t.length+1) c) (t.length+1) ((f::t).map .string))=> Gx.cut h
  obtain ⟨A,c,e,hc,hm,hcell⟩:=(own_strs (l:=f::t) hown).one
  subst e
  unfold maxLen at hm
  simp only [List.length_cons] at*
  have HO:=Fs (hcutS A c hown)
  obtain ⟨b,off,rfl,hbB,hc0⟩:=hcell 0 (by omega)
  have hcl:∀k (h:k < t.length+1),w1.cell? ⟨b,off+k,none⟩=some (.string ((f::t)[k]'(by simpa using h))):=by
   intro k h
   obtain ⟨b',off',e',_,h'⟩:=hcell k h
   cases e'
   exact h'
  have HCl:=Fs hcl
  simp only [Nat.add_zero,List.getElem_cons_zero] at hc0
  clear hcutS hown hcell hcl
  have hsz1:=hb.size
  by_cases hf0:f.size=0
  ·have hfe:(f.toList== [])=true:=by
    rw [ByteArray.toList_eq,beq_iff_eq]
    exact List.eq_nil_of_length_eq_zero (by simpa using hf0)
   have ht1:=HT.out hf0
   have hcut:=Ma (P:=prog) underlying47 sizeOf9 (some ⟨b,off,none⟩) (t.length+1) c 1 1 rfl (by omega)
   have HK1:=Fs (show Qt Zf s=t.all Zf by rw [HK.out];simp [hf0])
   have HL1:=Fs (show Yr Zf s=if t.all Zf=true then t else [] by rw [HLo.out];simp [hf0])
   have HB:=Fs hb
   clear hb hf0 HK HLo HT
   go_wp2
   go_loopw [5] (fun i wr=> ∃k:Nat,1≤k∧k≤t.length+1∧i= .int .i64 k∧(t.take (k - 1)).all Zf=true∧Below w1.heap.size w1 wr) (fun i _=> t.length+1 - (intOf i).toNat)
   case atStart=> exact ⟨1,Fu _,by omega,rfl,by simp,Fv _ _⟩
   case round=>
    obtain ⟨k,hk1,hk,rfl,hall,hbw⟩:=hrel
    have HA:=Fs hall
    clear hall
    by_cases hlt:k < t.length+1
    ·obtain ⟨j,rfl⟩:∃j,k=j+1:=⟨k - 1,by omega⟩
     have hj:j < t.length:=by omega
     have hx:=(hbw.cell (p:=⟨b,off+(j+1),none⟩) (by show b < _;omega)).trans (HCl.out (j+1) hlt)
     rw [show (f::t)[j+1]'(by simpa using hlt)=t[j] from rfl] at hx
     have hps:=HS.out t[j] (List.mem_cons_of_mem _ (Fw hj))
     go_wp2_with fail
     refine (Ic t[j] _ (by unfold maxLen;omega)).mono ?_
     rintro e w2 ⟨rfl,hb2⟩
     have hbw2:=Zb hb2 hbw
     have hnx:(t.take (j+1+1 - 1)).all Zf=Zf t[j]:=by
      rw [show j+1+1 - 1=j+1 from rfl,List.take_succ_eq_append_getElem hj,List.all_append]
      have:=HA.out
      rw [show j+1 - 1=j from rfl] at this
      rw [this];simp
     have HN:=Fs hnx
     have hno:Zf t[j]=false→t.all Zf=false:=by
      intro h
      rw [List.all_eq_false]
      exact ⟨t[j],Fw hj,by simp [h]⟩
     clear hnx
     generalize hbz:Zf t[j]=bz at*
     cases bz with
     |true=>
      clear hx hb2 hbw hno
      have HW:=Fs hbw2
      clear hbw2
      go_wp2
      go_roundw
      case rel=> exact ⟨j+1+1,by omega,by omega,by go_num,HN.out,HW.out⟩
      case measure=> simp [intOf];omega
     |false=>
      have hno:=hno rfl
      have HK2:=Fs (HK1.out.trans hno)
      have HL2:=Fs (show Yr Zf s= [] by rw [HL1.out,hno];rfl)
      have HB2:=Fs (HB.out.trans (hbw2.mono hsz1))
      have hs2:=hbw2.size
      clear hx hb2 hbw hno hbw2
      go_wp2
      go_ret2
      rw [RdB,HK2.out,HL2.out]
      exact ⟨_,rfl,Ld rfl (by omega),HB2.out.alloc (by omega) _⟩
    ·have hkl:k - 1=t.length:=by omega
     have hall:t.all Zf=true:=by
      have:=HA.out
      rwa [hkl,List.take_length] at this
     have HK2:=Fs (HK1.out.trans hall)
     have HL2:=Fs (show Yr Zf s=t by rw [HL1.out,hall];rfl)
     have HB2:=Fs (HB.out.trans (hbw.mono hsz1))
     have HR:=Fs (HO.out.keep (Xq.of_below hbw w1.heap.size w1.heap.size) (by omega))
     clear HO hall hkl
     go_wp2
     go_ret2
     rw [RdB,HK2.out,HL2.out]
     have hgt:decide ((1:Int) < (t.length:Int)+1)=true:=Fy (by omega)
     refine ⟨_,?_,HR.out.more hbw.size (Fu _),HB2.out⟩
     rw [hgt]
     rfl
  ·have hfe:(f.toList== [])=false:=by
    rw [beq_eq_false_iff_ne,ByteArray.toList_eq]
    intro h
    exact hf0 (by have:=congrArg List.length h;simpa using this)
   have HB:=Fs hb
   have HK2:=Fs (show Qt Zf s=false by rw [HK.out];simp [hf0])
   have HL2:=Fs (show Yr Zf s= [] by rw [HLo.out];simp [hf0])
   clear hb hf0
   go_wp2
   go_ret2
   rw [RdB,HK2.out,HL2.out]
   exact ⟨_,rfl,Ld rfl (by omega),HB.out.alloc (by omega) _⟩
end Go.Proofs.YteldgdelmaeokaaGreatDoor
