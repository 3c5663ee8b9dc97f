/- Out of ValEq, ValO, ValCut, KBox, MText, StrMark, DescMk: the walks and plain laws that the claim needs. No condition but those that each theorem names. -/
import Derived.Test.YtipfacnmobineaaGreatDoorGf
import Derived.Test.YtipfacnmobineaaGreatDoorGa
import Derived.WalkSpells
import Derived.WalkLawsBesides
import Derived.Deep.RegionHeld3
import Derived.Test.YtipfacnmobineaaGreatDoorGm
import Derived.Test.YtipfacnmobineaaGreatDoorGn
import Derived.Test.YtipfacnmobineaaGreatDoorRows
import Derived.BigQuiet
import Derived.Deep.QuietTactic
set_option linter.unusedSimpArgs false
set_option linter.unusedVariables false
namespace Go.Proofs.YtipfacnmobineaaGreatDoor
open Go.RowKit
def EqV (x:VM):Prop:=∀(y:VM),y.d=x.d→∀(B B':Nat) (w:World),x.rd w B→y.rd w B'→B≤w.heap.size→B'≤w.heap.size→Calls Tryz.prog 14 #[vmV x,vmV y] w (True1 w)
theorem VM.same_n {x y:VM} (h:y.d=x.d):y.n=x.n:=by have:=congrArg Val.n h;simpa using this
theorem VM.same_b {x y:VM} (h:y.d=x.d):y.b=x.b:=by have:=congrArg Val.b h;simpa using this
theorem VM.same_items {x y:VM} (h:y.d=x.d):y.items.map VM.d=x.items.map VM.d:=by have:=congrArg Val.items h;simpa using this
set_option maxHeartbeats 2000000 in
set_option maxRecDepth 100000 in
theorem eqValueS_of (v v':Value) (l l':List VM) (B B':Nat) (w:World) (h:SlV w B v l) (h':SlV w B' v' l') (hB:B≤w.heap.size) (hB':B'≤w.heap.size) (hd:l'.map VM.d=l.map VM.d) (hv:∀x∈l,EqV x):
  Calls Tryz.prog 40 #[v,v'] w (True1 w):=by
 have h2:=h.2
 have h2':=h'.2
 have hlen:l'.length=l.length:=by have:=congrArg List.length hd;simpa using this
 have hat:∀k (h1:k < l.length) (h2:k < l'.length),l'[k].d=l[k].d:=fun k h1 h2=> by
  have e1:(l'.map VM.d)[k]?=(l.map VM.d)[k]?:=by rw [hd]
  rw [List.getElem?_map,List.getElem?_map,List.getElem?_eq_getElem h1,List.getElem?_eq_getElem h2] at e1
  simpa using e1
 obtain ⟨A,c,rfl,hc,hm,hcell⟩:=h.open_
 obtain ⟨A',c',rfl,hc',hm',hcell'⟩:=h'.open_
 unfold maxLen at hm hm'
 have HV:=Lib.hid hv
 clear h h' hd hv
 have hb0:((l.length:Int)==(l'.length:Int))=true:=by rw [hlen];simp
 have hb1:((l.length:Int) !=(l'.length:Int))=false:=by rw [hlen];simp
 have HL:=Lib.hid hlen
 have hle1:l.length≤l'.length:=by omega
 have hle2:l'.length≤l.length:=by omega
 clear hlen
 go_enter Tryz.func40,Tryz.ntmps40
 go_wp2
 go_loopw [5] (fun i wr=> ∃k:Nat,k≤l.length∧i= .int .i64 k∧Below w.heap.size w wr) (fun i _=> l.length - (intOf i).toNat)
 case atStart=> exact ⟨0,Nat.zero_le _,rfl,Below.refl _ _⟩
 case round=>
  obtain ⟨k,hk,rfl,hb⟩:=hrel
  by_cases hlt:k < l.length
  ·have hlt':k < l'.length:=by omega
   obtain ⟨b,off,rfl,hbB,hc0,hc1,hc2⟩:=hcell k hlt
   obtain ⟨b',off',rfl,hbB',hc0',hc1',hc2'⟩:=hcell' k hlt'
   have hbm:=hb.mono hB
   have hbm':=hb.mono hB'
   have hd0:wr.cell? ⟨b,off+k*3,none⟩=some (.int .i64 l[k].n):=(hbm.cell (p:=⟨b,off+k*3,none⟩) hbB).trans hc0
   have hd1:wr.cell? ⟨b,off+k*3+1,none⟩=some l[k].vb:=(hbm.cell (p:=⟨b,off+k*3+1,none⟩) hbB).trans hc1
   have hd2:wr.cell? ⟨b,off+k*3+2,none⟩=some l[k].vi:=(hbm.cell (p:=⟨b,off+k*3+2,none⟩) hbB).trans hc2
   have hd0':wr.cell? ⟨b',off'+k*3,none⟩=some (.int .i64 l'[k].n):=(hbm'.cell (p:=⟨b',off'+k*3,none⟩) hbB').trans hc0'
   have hd1':wr.cell? ⟨b',off'+k*3+1,none⟩=some l'[k].vb:=(hbm'.cell (p:=⟨b',off'+k*3+1,none⟩) hbB').trans hc1'
   have hd2':wr.cell? ⟨b',off'+k*3+2,none⟩=some l'[k].vi:=(hbm'.cell (p:=⟨b',off'+k*3+2,none⟩) hbB').trans hc2'
   have r1:=(h2 _ (List.getElem_mem hlt)).bel hbm
   have r2:=(h2' _ (List.getElem_mem hlt')).bel hbm'
   have hsz:=hb.size
   have R1:=Lib.hid (And.intro r1 (And.intro r2 (And.intro (hat k hlt hlt') (HV.out l[k] (List.getElem_mem hlt)))))
   have HB:=Lib.hid hb
   clear hcell hcell' hbm hbm' r1 r2 hb hat h2 h2' hc0 hc1 hc2 hc0' hc1' hc2'
   go_wp2_with fail
   go_region_held3 (fun w'=> w'.cell? ⟨b,off+k*3,none⟩=some (.int .i64 l[k].n)∧w'.cell? ⟨b,off+k*3+1,none⟩=some l[k].vb∧w'.cell? ⟨b,off+k*3+2,none⟩=some l[k].vi∧w'.cell? ⟨b',off'+k*3,none⟩=some (.int .i64 l'[k].n)∧w'.cell? ⟨b',off'+k*3+1,none⟩=some l'[k].vb∧w'.cell? ⟨b',off'+k*3+2,none⟩=some l'[k].vi)
    (first|exact ⟨hd0,hd1,hd2,hd0',hd1',hd2'⟩|exact ⟨cell_later bel2 hd0,cell_later bel2 hd1,cell_later bel2 hd2,cell_later bel2 hd0',cell_later bel2 hd1',cell_later bel2 hd2'⟩)
    (first|(go_at_call 14;refine (R1.out.2.2.2 l'[k] R1.out.2.2.1 B B' _ (R1.out.1.bel ((Below.refl _ _).drew)) (R1.out.2.1.bel ((Below.refl _ _).drew)) (by show B≤wr.heap.size;omega) (by show B'≤wr.heap.size;omega)).mono ?_;rintro e w2 ⟨rfl,bel2⟩))
   have HB2:=Lib.hid (below_step bel2 HB.out.drew)
   clear bel2 hd0 hd1 hd2 hd0' hd1' hd2'
   go_wp2
   go_roundw
   case rel=> exact ⟨k+1,by omega,by go_num,HB2.out⟩
   case measure=> simp [intOf];omega
  ·clear hcell hcell' hat
   go_wp2
   go_ret
   exact ⟨rfl,hb⟩
set_option maxHeartbeats 2000000 in
set_option maxRecDepth 100000 in
theorem eqValue_same (x:VM):EqV x:=by
 induction x using VM.induct with
 |h nn b vb vi l ih=>
 intro y hy B B' w h h' hB hB'
 have hn:=VM.same_n hy
 have hbb:=VM.same_b hy
 have hii:=VM.same_items hy
 obtain ⟨nn',b',vb',vi',l'⟩:=y
 simp only [VM.n_mk,VM.b_mk,VM.items_mk] at hn hbb hii
 subst hn hbb
 have q1:=h.bytes
 have q2:=h.its
 have q1':=h'.bytes
 have q2':=h'.its
 simp only [VM.vb_mk,VM.b_mk,VM.vi_mk,VM.items_mk] at q1 q2 q1' q2'
 have g1:∀o o',Below w.heap.size w ((w.alloc o).alloc o'):=fun o o'=> ((Below.refl _ _).alloc (Nat.le_refl _) _).alloc (by simp) _
 have Z1:=Lib.hid (fun o o'=> q1.below ((g1 o o').mono hB))
 have Z2:=Lib.hid (fun o o'=> q1'.below ((g1 o o').mono hB'))
 have K1:=Lib.hid (fun o o' n=> q2.below (below_drewN ((g1 o o').mono hB) n))
 have K2:=Lib.hid (fun o o' n=> q2'.below (below_drewN ((g1 o o').mono hB') n))
 have IH:=Lib.hid ih
 have HI:=Lib.hid hii
 clear h h' q1 q2 q1' q2' ih hy hii
 show Calls Tryz.prog 14 #[.agg #[.int .i64 nn',vb,vi], .agg #[.int .i64 nn',vb',vi']] w _
 go_enter Tryz.func14,Tryz.ntmps14
 go_wp2_with fail
 refine (eqByteS_any _ _ b' b' _ _ _ (Z1.out _ _) (Z2.out _ _)).mono ?_
 rw [beq_self_eq_true]
 rintro e w2 ⟨rfl,n1,rfl⟩
 go_wp2_with fail
 refine (eqValueS_of vi vi' l l' B B' _ (K1.out _ _ _) (K2.out _ _ _) (by simp;omega) (by simp;omega) HI.out IH.out).mono ?_
 rintro e w2 ⟨rfl,hb9⟩
 have HB:=Lib.hid (below_step hb9 (below_drewN (g1 _ _) _))
 clear hb9
 go_wp2_with fail
 go_ret
 exact ⟨rfl,HB.out⟩
end Go.Proofs.YtipfacnmobineaaGreatDoor
namespace Go.Proofs.YtipfacnmobineaaGreatDoor
open Go.RowKit
theorem OwV.agg {X:Val} {lo hi:Nat} {w:World} {v:Value} (h:OwV X lo hi w v):∃A c A' c',v= .agg #[.int .i64 X.n, .slice A X.b.length c, .slice A' X.items.length c']:=by
 obtain ⟨x,rfl,rfl,h3⟩:=h
 obtain ⟨A,c,e1⟩:=own_slice h3.own.bytes
 obtain ⟨A',c',e2⟩:=own_slice h3.own.row
 refine ⟨A,c,A',c',?_⟩
 unfold vmV
 rw [e1,e2]
 simp
theorem szV_law {w0 w:World} {x:VM} {X:Val} {v:Value} {n:Int} (h:x.rd w0 w0.heap.size) (hX:x.d=X) (hv:v=vmV x) (b:Below w0.heap.size w0 w) (h0:0≤n) (h1:n≤1048576):
  Calls Tryz.prog 7 #[v, .int .i64 n] w (SzL (X.size≤1048576) n w):=by
 subst hX hv
 exact (szValue_any x _ n w (h.bel b) b.size h0 h1).mono fun _ _ hq=> hq.szL h1 h0
theorem toV_law {w0 w:World} {x:VM} {X:Val} {v:Value} (h:x.rd w0 w0.heap.size) (hX:x.d=X) (hv:v=vmV x) (b:Below w0.heap.size w0 w) (hs:X.size≤1048576):
  Calls Tryz.prog 11 #[v] w (Made (OwV X) w):=by
 subst hX hv
 exact toValue_any x _ w (h.bel b) b.size hs
theorem eqV_law {w:World} {v v':Value} {X:Val} {lo hi lo' hi':Nat} (h:OwV X lo hi w v) (h':OwV X lo' hi' w v'):
  Calls Tryz.prog 14 #[v,v'] w (True1 w):=by
 obtain ⟨x,e1,rfl,r1⟩:=h.rd
 obtain ⟨y,e2,rfl,r2⟩:=h'.rd
 exact eqValue_same x y (e2.trans e1.symm) _ _ w r1 r2 (Nat.le_refl _) (Nat.le_refl _)
end Go.Proofs.YtipfacnmobineaaGreatDoor
namespace Go.Proofs.YtipfacnmobineaaGreatDoor
open Go.RowKit
theorem b3_new {B:Nat} {W0 W:World} (_:Below B W0 W) (a b c:Value) (T:TypeId):B3 (W.alloc (.cells #[a,b,c] T)) W.heap.size a b c:=B3.new W a b c T
theorem OwV.set3 {X:Val} {lo hi g:Nat} {W:World} {v:Value} (h:OwV X lo hi W v) (hg:hi≤g∨g < lo) (a b c:Value):
  OwV X lo hi (((W.setCell ⟨g,0,none⟩ a).setCell ⟨g,1,none⟩ b).setCell ⟨g,2,none⟩ c) v:=by
 refine h.keep (lo':=g) (hi':=g+1) ?_ (by omega)
 refine Out.setCell ?_ (by show g≤g;omega) (by show g < g+1;omega) _
 refine Out.setCell ?_ (by show g≤g;omega) (by show g < g+1;omega) _
 refine Out.setCell ?_ (by show g≤g;omega) (by show g < g+1;omega) _
 exact Out.refl _ _ _
theorem OwV.bel {X:Val} {lo hi:Nat} {W W':World} {v:Value} (h:OwV X lo hi W v) (hb:Below W.heap.size W W'):OwV X lo hi W' v:=
 h.keep (Out.of_below hb 0 0) (.inr (Nat.zero_le _))
theorem OwV.bal {X:Val} {lo hi:Nat} {W:World} {v:Value} (h:OwV X lo hi W v) (o:Obj):OwV X lo hi (W.alloc o) v:=h.bel ((Below.refl _ _).alloc (Nat.le_refl _) o)
end Go.Proofs.YtipfacnmobineaaGreatDoor
namespace Go.Proofs.YtipfacnmobineaaGreatDoor
open Go.RowKit
abbrev zO:Obj:= .cells #[.int .i64 0, .slice none 0 0, .slice none 0 0] 35
theorem OwD.bal {D:List RuleD} {lo hi:Nat} {W:World} {v:Value} (h:OwD D lo hi W v) (o:Obj):OwD D lo hi (W.alloc o) v:=h.keep (Out.of_below ((Below.refl _ _).alloc (Nat.le_refl _) o) 0 0) (.inr (Nat.zero_le _))
theorem b3_zero {B:Nat} {W0 W:World} (_:Below B W0 W):B3 (W.alloc zO) W.heap.size (.int .i64 0) (.slice none 0 0) (.slice none 0 0):=B3.new W _ _ _ _
structure K3 (W:World) (g:Nat) (a b c:Value):Prop where
 c0:W.cell? ⟨g,0,none⟩=some a
 c1:W.cell? ⟨g,1,none⟩=some b
 c2:W.cell? ⟨g,2,none⟩=some c
structure K1 (W:World) (g:Nat) (a:Value):Prop where
 c0:W.cell? ⟨g,0,none⟩=some a
theorem K3.later {W W':World} {g:Nat} {a b c:Value} (h:K3 W g a b c) (hb:Below W.heap.size W W'):K3 W' g a b c:=⟨cell_later hb h.c0,cell_later hb h.c1,cell_later hb h.c2⟩
theorem K1.later {W W':World} {g:Nat} {a:Value} (h:K1 W g a) (hb:Below W.heap.size W W'):K1 W' g a:=⟨cell_later hb h.c0⟩
theorem K3.alloc {W:World} {g:Nat} {a b c:Value} (h:K3 W g a b c) (o:Obj):K3 (W.alloc o) g a b c:=h.later ((Below.refl _ _).alloc (Nat.le_refl _) o)
theorem K1.alloc {W:World} {g:Nat} {a:Value} (h:K1 W g a) (o:Obj):K1 (W.alloc o) g a:=h.later ((Below.refl _ _).alloc (Nat.le_refl _) o)
theorem K3.out {W W':World} {g lo hi:Nat} {a b c:Value} (h:K3 W g a b c) (ho:Out lo hi W W') (hg:g < lo∨hi≤g):K3 W' g a b c:=
 ⟨ho.cell (p:=⟨g,0,none⟩) h.c0 hg,ho.cell (p:=⟨g,1,none⟩) h.c1 hg,ho.cell (p:=⟨g,2,none⟩) h.c2 hg⟩
theorem K1.out {W W':World} {g lo hi:Nat} {a:Value} (h:K1 W g a) (ho:Out lo hi W W') (hg:g < lo∨hi≤g):K1 W' g a:=⟨ho.cell (p:=⟨g,0,none⟩) h.c0 hg⟩
theorem K3.drew {W:World} {g:Nat} {a b c:Value} (h:K3 W g a b c):K3 W.drew g a b c:=⟨h.c0,h.c1,h.c2⟩
theorem K1.drew {W:World} {g:Nat} {a:Value} (h:K1 W g a):K1 W.drew g a:=⟨h.c0⟩
theorem B3.k3 {W:World} {g:Nat} {a b c:Value} (h:B3 W g a b c):K3 W g a b c:=⟨h.c0,h.c1,h.c2⟩
end Go.Proofs.YtipfacnmobineaaGreatDoor
namespace Go.Proofs.YtipfacnmobineaaGreatDoor
open Go.RowKit
def mtext (k:Nat):ByteArray:=str (109::digs k)
set_option maxHeartbeats 1000000 in
set_option maxRecDepth 100000 in
theorem markText_any (k:Nat) (w:World) (hk:1≤k) (hk2:k≤4611686018427387904):
  Calls Tryz.prog 45 #[.int .i64 k] w fun e w'=> e= .returned (.string (mtext k))∧Below w.heap.size w w':=by
 have hlen:=digs_length k 19 (by omega)
 go_enter Tryz.func45,Tryz.ntmps45
 go_wp2
 go_loopw [0,3] (fun i s wr=> ∃(x:Nat) (S:List UInt8),i= .int .i64 x∧s= .string (str S)∧x≤k∧digs k=digs x++S∧Below w.heap.size w wr) (fun i _ _=> (intOf i).natAbs)
 case atStart=> exact ⟨k, [],rfl,rfl,Nat.le_refl _,by simp,Below.refl _ _⟩
 case round=>
  obtain ⟨x,S,rfl,rfl,hx1,hd,hb⟩:=hrel
  have HD:=Lib.hid hd
  have hSl:(str S).size≤19:=by
   have:=congrArg List.length hd
   rw [List.length_append] at this
   rw [str_size];omega
  clear hd
  by_cases hx:x=0
  ·subst hx
   have HE:=Lib.hid (HD.out.trans (by rw [digs_zero,List.nil_append]))
   have hz:decide ((0:Int) < ((0:Nat):Int))=false:=rfl
   clear HD
   go_wp2
   go_ret
   exact ⟨ret_str (by unfold mtext;rw [HE.out];rfl),hb⟩
  ·have hpos:(0:Int) < x:=by omega
   have HN:=Lib.hid (HD.out.trans (digs_cons x hx S))
   have hcv:=conv_one wr (48+(x:Int) % 10) (x % 10) (by omega) (by omega)
   have hsz:=dch_size (x % 10)
   have hsz1:(str [dch (x % 10)]).size≤1:=by omega
   clear hsz hx
   have HB:=Lib.hid (hb.alloc hb.size (.cells #[.int .u8 (48+(x:Int) % 10)] 5))
   go_wp2
   go_roundw
   case rel=> exact ⟨x / 10,dch (x % 10)::S,by go_num,by rw [str_cons],by omega,HN.out,HB.out⟩
   case measure=> simp [intOf];omega
theorem markText_at (z:Int) (k:Nat) (hz:z=k) (w:World) (hk:1≤k) (hk2:k≤4611686018427387904):
  Calls Tryz.prog 45 #[.int .i64 z] w fun e w'=> e= .returned (.string (mtext k))∧Below w.heap.size w w':=by
 subst hz;exact markText_any k w hk hk2
end Go.Proofs.YtipfacnmobineaaGreatDoor
namespace Go.Proofs.YtipfacnmobineaaGreatDoor
open Go.RowKit
def strMarks (k n:Nat):List ByteArray:=(List.range n).map fun i=> mtext (k+i)
@[simp] theorem strMarks_length (k n:Nat):(strMarks k n).length=n:=by simp [strMarks]
theorem strMarks_at (k n i:Nat) (h:i < n):(strMarks k n)[i]'(by simpa using h)=mtext (k+i):=by simp [strMarks]
theorem strMarks_succ (k n:Nat):strMarks k (n+1)=strMarks k n++ [mtext (k+n)]:=by simp [strMarks,List.range_succ]
set_option maxHeartbeats 1000000 in
set_option maxRecDepth 100000 in
theorem markStringS_any (v:Value) (n:Nat) (xs:List Value) (k base:Nat) (w:World) (h:w.ownsRow base 9 1 v n xs) (h1:1≤k) (hk:k+n≤4611686018427387000):
  Calls Tryz.prog 63 #[v, .int .i64 k] w (Marked w base 9 1 v n ((strMarks k n).map .string) ((k:Int)+n)):=by
 have hlen:xs.length=n*1:=h.1
 rcases h.2 with ⟨rfl,rfl⟩|⟨g,cap,cur,rfl,hb,hg,hc,hm,hs,ht⟩
 ·go_enter Tryz.func63,Tryz.ntmps63
  go_wp2
  go_loop [1,5] (fun q i=> i= .int .i64 0∧q= .int .i64 k) (fun _ i=> (intOf i).toNat)
  case atStart=> exact ⟨rfl,rfl⟩
  case round=>
   obtain ⟨rfl,rfl⟩:=hrel
   go_wp2
   go_ret
   exact ⟨ret_int (by simp),World.ownsRow_nil _ _ _ _,World.grownBy.refl _ _⟩
 ·unfold maxLen at hm
  clear hg hs ht hb cur
  go_enter Tryz.func63,Tryz.ntmps63
  go_wp2
  go_loopw [1,5] (fun q i wr=> ∃j:Nat,j≤n∧i= .int .i64 j∧q= .int .i64 ((k:Int)+j)∧(∃ys,wr.ownsRow base 9 1 (.slice (some ⟨g,0,none⟩) n cap) n ((strMarks k j).map .string++ys))∧w.grownBy wr (some g)) (fun _ i _=> n - (intOf i).toNat)
  case atStart=> exact ⟨0,Nat.zero_le _,rfl,by go_num,⟨xs,h⟩,World.grownBy.refl _ _⟩
  case round=>
   obtain ⟨j,hj,rfl,rfl,⟨ys,hown⟩,hgr⟩:=hrel
   by_cases hlt:j < n
   ·go_wp2_with fail
    refine (markText_at _ (k+j) (by omega) _ (by omega) (by omega)).mono ?_
    rintro e w2 ⟨rfl,hb1⟩
    have hown2:=own_below hown hb1 (Nat.le_refl _)
    have hg2:w.grownBy w2 (some g):=grownBy_trans hgr ⟨hb1.os,hb1.tape,hb1.output,hb1.size,fun i hi hne=> hb1.block i hi⟩
    clear hown hgr hb1 h
    have hf0:=hown2.frozenAt j
    have hold:∃u,w2.cell? ⟨g,j,none⟩=some u:=by
     rw [hown2.cellAt j (by omega)]
     exact ⟨_,List.getElem?_eq_getElem (by rw [hown2.1];omega)⟩
    obtain ⟨u0,hu0⟩:=hold
    have hys:1≤ys.length:=by
     have:=hown2.1
     rw [List.length_append,List.length_map,strMarks_length] at this
     omega
    have hp:=own_putCells [.string (mtext (k+j))] _ _ ys (by simpa using hys) hown2
    rw [List.length_map,strMarks_length,←show (strMarks k (j+1)).map Value.string=(strMarks k j).map Value.string++ [.string (mtext (k+j))] by rw [strMarks_succ];simp] at hp
    have hpb:=grownBy_trans hg2 (grownBy_putCells (g:=g) [.string (mtext (k+j))] w2 j)
    have HP:=Lib.hid (And.intro hp hpb)
    clear hp hpb hys hown2 hg2
    go_wp2
    go_roundw
    case rel=> exact ⟨j+1,by omega,by go_num,by go_num,⟨_,HP.out.1⟩,HP.out.2⟩
    case measure=> simp [intOf];omega
   ·have hjn:j=n:=by omega
    subst hjn
    have hys:ys= []:=by
     have:=hown.1
     rw [List.length_append,List.length_map,strMarks_length] at this
     exact List.eq_nil_of_length_eq_zero (by omega)
    rw [hys,List.append_nil] at hown
    have H:=Lib.hid (And.intro hown hgr)
    clear hown hgr h hlen hys
    go_wp2
    go_ret
    exact ⟨rfl,H.out.1,H.out.2⟩
def MkS (n:Nat) (lo hi:Nat) (w:World) (v:Value) (k r:Int):Prop:=∃j:Nat,1≤j∧k=j∧r=k+n∧n≤4194304∧j≤1125899906842624∧Row lo hi 9 1 n ((strMarks j n).map .string) w v
theorem MkS.keep {n:Nat} {lo hi lo' hi':Nat} {w w':World} {v:Value} {k r:Int} (h:MkS n lo hi w v k r) (ho:Out lo' hi' w w') (hd:hi≤lo'∨hi'≤lo):MkS n lo hi w' v k r:=by
 obtain ⟨j,h1,h2,h3,h4,h5,h6⟩:=h
 exact ⟨j,h1,h2,h3,h4,h5,h6.keep ho hd⟩
theorem markS_law {w:World} {v:Value} {l:List ByteArray} {lo hi:Nat} (h:OwS l lo hi w v) (k:Int) (h1:1≤k) (h2:k≤1125899906842624) (hl:l.length≤4194304):
  Calls Tryz.prog 63 #[v, .int .i64 k] w (Marks (MkS l.length) lo hi v k w):=by
 obtain ⟨j,rfl⟩:=Int.eq_ofNat_of_zero_le (show 0≤k by omega)
 refine (markStringS_any v l.length (l.map .string) j lo w h.1 (by omega) (by omega)).mono ?_
 rintro e w' ⟨rfl,ho,hg⟩
 exact ⟨_,rfl,by omega,by omega,⟨j,by omega,rfl,rfl,hl,by omega,ho,h.2⟩,Out.of_grown hg fun g hk=> ⟨(ho.lt g hk).1,h.2 g hk⟩⟩
end Go.Proofs.YtipfacnmobineaaGreatDoor
namespace Go.Proofs.YtipfacnmobineaaGreatDoor
open Go.RowKit
def intMarks (k n:Nat):List Int:=(List.range n).map fun i=> ((k+i:Nat):Int)
@[simp] theorem intMarks_length (k n:Nat):(intMarks k n).length=n:=by simp [intMarks]
theorem intMarks_succ (k n:Nat):intMarks k (n+1)=intMarks k n++ [((k+n:Nat):Int)]:=by simp [intMarks,List.range_succ]
set_option maxHeartbeats 1000000 in
set_option maxRecDepth 100000 in
theorem markIntS_any (v:Value) (n:Nat) (xs:List Value) (k base:Nat) (w:World) (h:w.ownsRow base 3 1 v n xs) (h1:1≤k) (hk:k+n≤4611686018427387000):
  Calls Tryz.prog 64 #[v, .int .i64 k] w (Marked w base 3 1 v n ((intMarks k n).map (.int .i64)) ((k:Int)+n)):=by
 have hlen:xs.length=n*1:=h.1
 rcases h.2 with ⟨rfl,rfl⟩|⟨g,cap,cur,rfl,hb,hg,hc,hm,hs,ht⟩
 ·go_enter Tryz.func64,Tryz.ntmps64
  go_wp2
  go_loop [1,5] (fun q i=> i= .int .i64 0∧q= .int .i64 k) (fun _ i=> (intOf i).toNat)
  case atStart=> exact ⟨rfl,rfl⟩
  case round=>
   obtain ⟨rfl,rfl⟩:=hrel
   go_wp2
   go_ret
   exact ⟨ret_int (by simp),World.ownsRow_nil _ _ _ _,World.grownBy.refl _ _⟩
 ·unfold maxLen at hm
  clear hg hs ht hb cur
  go_enter Tryz.func64,Tryz.ntmps64
  go_wp2
  go_loopw [1,5] (fun q i wr=> ∃j:Nat,j≤n∧i= .int .i64 j∧q= .int .i64 ((k:Int)+j)∧(∃ys,wr.ownsRow base 3 1 (.slice (some ⟨g,0,none⟩) n cap) n ((intMarks k j).map (.int .i64)++ys))∧w.grownBy wr (some g)) (fun _ i _=> n - (intOf i).toNat)
  case atStart=> exact ⟨0,Nat.zero_le _,rfl,by go_num,⟨xs,h⟩,World.grownBy.refl _ _⟩
  case round=>
   obtain ⟨j,hj,rfl,rfl,⟨ys,hown⟩,hgr⟩:=hrel
   by_cases hlt:j < n
   ·have hf0:=hown.frozenAt j
    have hold:∃u,wr.cell? ⟨g,j,none⟩=some u:=by
     rw [hown.cellAt j (by omega)]
     exact ⟨_,List.getElem?_eq_getElem (by rw [hown.1];omega)⟩
    obtain ⟨u0,hu0⟩:=hold
    have hys:1≤ys.length:=by
     have:=hown.1
     rw [List.length_append,List.length_map,intMarks_length] at this
     omega
    have hp:=own_putCells [.int .i64 ((k:Int)+j)] _ _ ys (by simpa using hys) hown
    rw [List.length_map,intMarks_length,←show (intMarks k (j+1)).map (Value.int .i64)=(intMarks k j).map (Value.int .i64)++ [.int .i64 ((k:Int)+j)] by rw [intMarks_succ];simp] at hp
    have hpb:=grownBy_trans hgr (grownBy_putCells (g:=g) [.int .i64 ((k:Int)+j)] wr j)
    have HP:=Lib.hid (And.intro hp hpb)
    clear hp hpb hys hown hgr h
    go_wp2
    go_roundw
    case rel=> exact ⟨j+1,by omega,by go_num,by go_num,⟨_,HP.out.1⟩,HP.out.2⟩
    case measure=> simp [intOf];omega
   ·have hjn:j=n:=by omega
    subst hjn
    have hys:ys= []:=by
     have:=hown.1
     rw [List.length_append,List.length_map,intMarks_length] at this
     exact List.eq_nil_of_length_eq_zero (by omega)
    rw [hys,List.append_nil] at hown
    have H:=Lib.hid (And.intro hown hgr)
    clear hown hgr h hlen hys
    go_wp2
    go_ret
    exact ⟨rfl,H.out.1,H.out.2⟩
def Counts (lo hi n k:Nat) (w:World) (e:Ending) (w':World):Prop:=∃r:Nat,e= .returned (.int .i64 r)∧k≤r∧r≤k+n∧Out lo hi w w'
theorem Marked.counts {w w':World} {base lo hi n k:Nat} {E:TypeId} {size:Nat} {v:Value} {xs:List Value} {e:Ending} (h:Marked w base E size v n xs ((k:Int)+n) e w') (hb:lo≤base) (hv:∀g,v.ownBlock=some g→g < hi):Counts lo hi n k w e w':=by
 obtain ⟨rfl,ho,hg⟩:=h
 exact ⟨k+n,by simp,by omega,Nat.le_refl _,Out.of_grown hg fun g hk=> ⟨Nat.le_trans hb (ho.lt g hk).1,hv g hk⟩⟩
theorem cntB {w:World} {v:Value} {l:List UInt8} {lo hi k:Nat} (h:OwB l lo hi w v) (hk:k≤1125899906842624) (hl:l.length≤1048576):
  Calls Tryz.prog 43 #[v, .int .i64 k] w (Counts lo hi l.length k w):=(markByteS_any v l.length (u8s l) k lo w h.1 (by omega)).mono fun _ _ hq=> hq.counts (Nat.le_refl _) h.2
theorem cntS {w:World} {v:Value} {l:List ByteArray} {lo hi k:Nat} (h:OwS l lo hi w v) (h1:1≤k) (hk:k≤1125899906842624) (hl:l.length≤1048576):
  Calls Tryz.prog 63 #[v, .int .i64 k] w (Counts lo hi l.length k w):=(markStringS_any v l.length _ k lo w h.1 h1 (by omega)).mono fun _ _ hq=> hq.counts (Nat.le_refl _) h.2
theorem cntI {w:World} {v:Value} {l:List Int} {lo hi k:Nat} (h:OwI l lo hi w v) (h1:1≤k) (hk:k≤1125899906842624) (hl:l.length≤1048576):
  Calls Tryz.prog 64 #[v, .int .i64 k] w (Counts lo hi l.length k w):=(markIntS_any v l.length _ k lo w h.1 h1 (by omega)).mono fun _ _ hq=> hq.counts (Nat.le_refl _) h.2
theorem own_lt {g m:Nat} (h:g < m) {n c:Nat} (o:Nat):∀k,(Value.slice (some ⟨g,o,none⟩) n c).ownBlock=some k→k < m:=by
 intro k hk
 have:g=k:=by simpa [Value.ownBlock] using hk
 omega
theorem rule_slices {w:World} {base n cap g:Nat} {E:TypeId} {pre ys:List Value} {x0 x1 x2 x3 x4 x5 x6 x7:Value} {j:Nat} (h:w.ownsRow base E 8 (.slice (some ⟨g,0,none⟩) n cap) n (pre++ [x0,x1,x2,x3,x4,x5,x6,x7]++ys)) (hp:pre.length=j*8) (hj:j < n):
  w.cell? ⟨g,j*8+4,none⟩=some x4∧w.cell? ⟨g,j*8+5,none⟩=some x5∧w.cell? ⟨g,j*8+6,none⟩=some x6∧w.cell? ⟨g,j*8+7,none⟩=some x7:=by
 have hat:∀i,i < 8→w.cell? ⟨g,j*8+i,none⟩= [x0,x1,x2,x3,x4,x5,x6,x7][i]?:=by
  intro i hi
  rw [h.cellAt (j*8+i) (by omega),List.append_assoc,List.getElem?_append_right (by omega),hp,Nat.add_sub_cancel_left,List.getElem?_append_left (by simpa using hi)]
 exact ⟨hat 4 (by omega),hat 5 (by omega),hat 6 (by omega),hat 7 (by omega)⟩
set_option maxHeartbeats 4000000 in
set_option maxRecDepth 100000 in
theorem markRuleS_any (v:Value) (l:List RM) (k lo m hi:Nat) (w:World) (h:w.ownsRow lo 90 8 v l.length (l.flatMap rmCells)) (hv:∀g,v.ownBlock=some g→g < m) (hlo:lo≤m) (hr:OwRs hi w l m)
  (hs:∀r∈l,r.d.small 1048576) (hl:l.length≤1048576) (h1:1≤k) (hk:k≤1099511627776):
  Calls Tryz.prog 42 #[v, .int .i64 k] w (Counts lo hi (4194308*l.length) k w):=by
 rcases h.2 with ⟨rfl,h0⟩|⟨g,cap,cur,rfl,hb,hg,hc,hm,hss,ht⟩
 ·rw [h0]
  go_enter Tryz.func42,Tryz.ntmps42
  go_wp2
  go_loop [1,5] (fun q i=> i= .int .i64 0∧q= .int .i64 k) (fun _ i=> (intOf i).toNat)
  case atStart=> exact ⟨rfl,rfl⟩
  case round=>
   obtain ⟨rfl,rfl⟩:=hrel
   go_wp2
   go_ret
   exact ⟨k,rfl,Nat.le_refl _,by omega,Out.refl _ _ _⟩
 ·unfold maxLen at hm
  have hgm:=hv g rfl
  have hgh:=hr.le
  clear hg hss ht cur hv
  have h00:w.ownsRow lo 90 8 (.slice (some ⟨g,0,none⟩) l.length cap) l.length (([]:List RM).flatMap rmCells++(l.drop 0).flatMap rmCells):=h
  go_enter Tryz.func42,Tryz.ntmps42
  go_wp2
  go_loopw [1,5] (fun q i wr=> ∃j r mj:Nat,j≤l.length∧i= .int .i64 j∧q= .int .i64 r∧k≤r∧r≤k+4194308*j∧m≤mj∧(∃D:List RM,D.length=j∧wr.ownsRow lo 90 8 (.slice (some ⟨g,0,none⟩) l.length cap) l.length (D.flatMap rmCells++(l.drop j).flatMap rmCells))∧OwRs hi wr (l.drop j) mj∧Out lo hi w wr) (fun _ i _=> l.length - (intOf i).toNat)
  case atStart=> exact ⟨0,k,m,Nat.zero_le _,rfl,rfl,Nat.le_refl _,by omega,Nat.le_refl _,⟨[],rfl,h00⟩,hr,Out.refl _ _ _⟩
  case round=>
   clear h h00 hr
   obtain ⟨j,r,mj,hj,rfl,rfl,hr1,hr2,hmj,⟨D,hD,hown⟩,hrs,hout⟩:=hrel
   by_cases hlt:j < l.length
   ·go_wp2_with fail
    refine (markText_at _ r rfl _ (by omega) (by omega)).mono ?_
    rintro e w2 ⟨rfl,hb1⟩
    have hown2:=own_below hown hb1 (Nat.le_refl _)
    have hout2:=hout.trans (Out.of_below hb1 lo hi)
    have hrs2:=hrs.keep (Out.of_below hb1 0 0) (.inr (Nat.zero_le _))
    have hsm:=hs _ (List.getElem_mem hlt)
    have hdr:=List.drop_eq_getElem_cons hlt
    generalize l[j]=x at hdr hsm
    obtain ⟨L,hL⟩:∃L,l.drop (j+1)=L:=⟨_,rfl⟩
    rw [hL] at hdr
    rw [hdr] at hrs2 hown2
    have HL:=Lib.hid hL
    clear hdr hL
    obtain ⟨mk,hmk,ho,hrest⟩:=hrs2
    obtain ⟨m1,m2,m3,q1,q2,q3,q4,z1,z2,z3,z4⟩:=ho
    have hmh:=hrest.le
    obtain ⟨A1,c1,ev1⟩:=row_slice q1
    obtain ⟨A2,c2,ev2⟩:=row_slice q2
    obtain ⟨A3,c3,ev3⟩:=row_slice q3
    obtain ⟨A4,c4,ev4⟩:=row_slice q4
    rw [ev1] at q1
    rw [ev2] at q2
    rw [ev3] at q3
    rw [ev4] at q4
    obtain ⟨-,s1,s2, -,s3,s4⟩:=hsm
    have hDc:(D.flatMap rmCells).length=j*8:=by rw [flatMap_len rmCells 8 rmCells_length,hD]
    have hown3:w2.ownsRow lo 90 8 (.slice (some ⟨g,0,none⟩) l.length cap) l.length (D.flatMap rmCells++ [.string x.d.name, .int .i64 x.d.kind, .int .i64 x.d.size, .bool x.d.little, .slice A1 x.d.bytes.length c1, .slice A2 x.d.names.length c2, .slice A3 x.d.tags.length c3, .slice A4 x.d.kids.length c4]++L.flatMap rmCells):=by
     rw [List.append_assoc,←ev1,←ev2,←ev3,←ev4]
     exact hown2
    obtain ⟨y4,y5,y6,y7⟩:=rule_slices hown3 hDc hlt
    have hold:∀i,i < 8→∃u,w2.cell? ⟨g,j*8+i,none⟩=some u:=by
     intro i hi
     rw [hown2.cellAt (j*8+i) (by omega)]
     exact ⟨_,List.getElem?_eq_getElem (by rw [hown2.1];omega)⟩
    obtain ⟨u0',hu0⟩:=hold 0 (by omega)
    have hf0:=hown2.frozenAt (j*8)
    obtain ⟨u1',hu1⟩:=hold 1 (by omega)
    have hf1:=hown2.frozenAt (j*8+1)
    obtain ⟨u2',hu2⟩:=hold 2 (by omega)
    have hf2:=hown2.frozenAt (j*8+2)
    obtain ⟨u3',hu3⟩:=hold 3 (by omega)
    have hf3:=hown2.frozenAt (j*8+3)
    rw [Nat.add_zero] at hu0
    clear hold
    have hp:=own_putCells [.string (mtext r), .int .i64 ((r:Int)+1), .int .i64 ((r:Int)+1+1), .bool (((r:Int)+1+1+1) % 3==0)] _ (D.flatMap rmCells) ([.string x.d.name, .int .i64 x.d.kind, .int .i64 x.d.size, .bool x.d.little, .slice A1 x.d.bytes.length c1, .slice A2 x.d.names.length c2, .slice A3 x.d.tags.length c3, .slice A4 x.d.kids.length c4]++L.flatMap rmCells) (by simp) (by rw [←List.append_assoc];exact hown3)
    rw [hDc] at hp
    have hp:(putCells w2 g (j*8) [.string (mtext r), .int .i64 ((r:Int)+1), .int .i64 ((r:Int)+1+1), .bool (((r:Int)+1+1+1) % 3==0)]).ownsRow lo 90 8 (.slice (some ⟨g,0,none⟩) l.length cap) l.length (D.flatMap rmCells++ [.string (mtext r), .int .i64 ((r:Int)+1), .int .i64 ((r:Int)+1+1), .bool (((r:Int)+1+1+1) % 3==0), .slice A1 x.d.bytes.length c1, .slice A2 x.d.names.length c2, .slice A3 x.d.tags.length c3, .slice A4 x.d.kids.length c4]++L.flatMap rmCells):=by
     rw [List.append_assoc] at hp ⊢
     exact hp
    have op:Out lo m w2 (putCells w2 g (j*8) [.string (mtext r), .int .i64 ((r:Int)+1), .int .i64 ((r:Int)+1+1), .bool (((r:Int)+1+1+1) % 3==0)]):=Out.of_grown (grownBy_putCells (g:=g) _ w2 (j*8)) fun x hx=> by cases hx;exact ⟨hb,hgm⟩
    have hout3:=hout2.trans (op.wide (Nat.le_refl _) hgh)
    have q1:=q1.keep op (by omega)
    have q2:=q2.keep op (by omega)
    have q3:=q3.keep op (by omega)
    have q4:=q4.keep op (by omega)
    have hrest:=hrest.keep op (by omega)
    have hrow:Row lo m 90 8 l.length _ _ _:=⟨hp,own_lt hgm _⟩
    have HH:=Lib.hid (And.intro hrow (And.intro q1 (And.intro q2 (And.intro q3 (And.intro q4 (And.intro hrest hout3))))))
    clear hp hrow hown hown2 hown3 hout hout2 hout3 hrs hrest q1 q2 q3 q4 ev1 ev2 ev3 ev4 hb1 hs op
    go_wp2_with fail
    refine (cntB (k:=r+1+1+1+1) HH.out.2.1 (by omega) s1).mono ?_
    rintro e w3 ⟨r3,rfl,g3,l3,o3⟩
    obtain ⟨hrow,q1,q2,q3,q4,hrest,hout3⟩:=HH.out
    have hrow:=hrow.keep o3 (.inl hmj)
    have q2:=q2.keep o3 (by omega)
    have q3:=q3.keep o3 (by omega)
    have q4:=q4.keep o3 (by omega)
    have hrest:=hrest.keep o3 (by omega)
    have hout3:=hout3.trans (o3.wide (by omega) (by omega))
    obtain ⟨-,y5,y6,y7⟩:=rule_slices hrow.1 hDc hlt
    have HH:=Lib.hid (And.intro hrow (And.intro q2 (And.intro q3 (And.intro q4 (And.intro hrest hout3)))))
    clear hrow q1 q2 q3 q4 hrest hout3 o3
    go_wp2_with fail
    refine (cntS HH.out.2.1 (by omega) (by omega) s2).mono ?_
    rintro e w4 ⟨r4,rfl,g4,l4,o4⟩
    obtain ⟨hrow,q2,q3,q4,hrest,hout3⟩:=HH.out
    have hrow:=hrow.keep o4 (.inl (by omega))
    have q3:=q3.keep o4 (by omega)
    have q4:=q4.keep o4 (by omega)
    have hrest:=hrest.keep o4 (by omega)
    have hout3:=hout3.trans (o4.wide (by omega) (by omega))
    obtain ⟨-, -,y6,y7⟩:=rule_slices hrow.1 hDc hlt
    have HH:=Lib.hid (And.intro hrow (And.intro q3 (And.intro q4 (And.intro hrest hout3))))
    clear hrow q2 q3 q4 hrest hout3 o4
    go_wp2_with fail
    refine (cntI HH.out.2.1 (by omega) (by omega) s3).mono ?_
    rintro e w5 ⟨r5,rfl,g5,l5,o5⟩
    obtain ⟨hrow,q3,q4,hrest,hout3⟩:=HH.out
    have hrow:=hrow.keep o5 (.inl (by omega))
    have q4:=q4.keep o5 (by omega)
    have hrest:=hrest.keep o5 (by omega)
    have hout3:=hout3.trans (o5.wide (by omega) (by omega))
    obtain ⟨-, -, -,y7⟩:=rule_slices hrow.1 hDc hlt
    have HH:=Lib.hid (And.intro hrow (And.intro q4 (And.intro hrest hout3)))
    clear hrow q3 q4 hrest hout3 o5
    go_wp2_with fail
    refine (cntI HH.out.2.1 (by omega) (by omega) s4).mono ?_
    rintro e w6 ⟨r6,rfl,g6,l6,o6⟩
    obtain ⟨hrow,q4,hrest,hout3⟩:=HH.out
    have hrow:=hrow.keep o6 (.inl (by omega))
    have hrest:=hrest.keep o6 (by omega)
    have hout3:=hout3.trans (o6.wide (by omega) (by omega))
    have hD2:(D++ [(⟨⟨mtext r,(r:Int)+1,(r:Int)+1+1,((r:Int)+1+1+1) % 3==0, [], [], [], []⟩, .slice A1 x.d.bytes.length c1, .slice A2 x.d.names.length c2, .slice A3 x.d.tags.length c3, .slice A4 x.d.kids.length c4⟩:RM)]).length=j+1:=by simp [hD]
    have hrow2:w6.ownsRow lo 90 8 (.slice (some ⟨g,0,none⟩) l.length cap) l.length ((D++ [(⟨⟨mtext r,(r:Int)+1,(r:Int)+1+1,((r:Int)+1+1+1) % 3==0, [], [], [], []⟩, .slice A1 x.d.bytes.length c1, .slice A2 x.d.names.length c2, .slice A3 x.d.tags.length c3, .slice A4 x.d.kids.length c4⟩:RM)]).flatMap rmCells++(l.drop (j+1)).flatMap rmCells):=by
     rw [HL.out,List.flatMap_append]
     simpa [rmCells] using hrow.1
    rw [←HL.out] at hrest
    have HF:=Lib.hid (And.intro hrow2 (And.intro hrest hout3))
    have HD:=Lib.hid hD2
    clear hrow hrow2 hD2 q4 hrest hout3 o6 HH HL
    go_wp2
    go_roundw
    case rel=> exact ⟨j+1,r6,mk,by omega,by go_num,rfl,by omega,by omega,by omega,⟨_,HD.out,HF.out.1⟩,HF.out.2.1,HF.out.2.2⟩
    case measure=> simp [intOf];omega
   ·have hjn:j=l.length:=by omega
    have H:=Lib.hid hout
    clear hown hout hrs hs
    go_wp2
    go_ret
    exact ⟨r,rfl,hr1,by omega,H.out⟩
set_option maxRecDepth 100000 in
theorem markD_law {w:World} {v:Value} {D:List RuleD} {lo hi:Nat} (h:OwD D lo hi w v) (k:Int) (h1:1≤k) (h2:k≤1099511627776) (hl:D.length≤1048576) (sm:∀r∈D,r.small 1048576):
  Calls Tryz.prog 17 #[.agg #[v], .int .i64 k] w fun e w'=> ∃r:Int,e= .returned (.int .i64 r)∧0≤r∧k≤r∧r≤k+4398050705408∧Out lo hi w w':=by
 obtain ⟨j,rfl⟩:=Int.eq_ofNat_of_zero_le (show 0≤k by omega)
 obtain ⟨l,m,rfl,hrow,hlo,hrs⟩:=h
 have hm:=hrs.le
 have hs:∀r∈l,r.d.small 1048576:=fun r hr=> sm _ (List.mem_map_of_mem hr)
 rw [List.length_map] at hl
 obtain ⟨A,c,rfl⟩:=row_slice hrow
 go_enter Tryz.func17,Tryz.ntmps17
 have hb0:=Out.of_below (below_alloc1 w (.cells #[.slice A l.length c] 40)) lo hi
 have hb1:=Out.of_below (below_alloc1 w (.cells #[.slice A l.length c] 40)) 0 0
 go_wp2_with fail
 refine (markRuleS_any _ l j lo m hi _ (hrow.keep hb1 (.inr (Nat.zero_le _))).1 hrow.2 hlo (hrs.keep hb1 (.inr (Nat.zero_le _))) hs hl (by omega) (by omega)).mono ?_
 rintro e W1 ⟨r,rfl,g1,l1,o1⟩
 have HO:=Lib.hid (hb0.trans o1)
 clear hrow hrs hb0 hb1 o1 hs sm
 go_wp2
 go_ret
 exact ⟨_,rfl,by omega,by omega,by omega,HO.out⟩
end Go.Proofs.YtipfacnmobineaaGreatDoor
