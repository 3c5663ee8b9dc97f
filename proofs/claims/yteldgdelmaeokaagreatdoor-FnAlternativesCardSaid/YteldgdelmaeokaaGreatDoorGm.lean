/- Out of ValPt, ValB3: the walks and plain laws that the claim needs. No condition but those that each theorem names. -/
import Derived.Test.YteldgdelmaeokaaGreatDoorGf
import Derived.Test.YteldgdelmaeokaaGreatDoorGj
import Derived.Test.YteldgdelmaeokaaGreatDoorGk
import Derived.Test.YteldgdelmaeokaaGreatDoorGl
import Derived.WalkSpells
import Derived.WalkLawsBesides
import Derived.Deep.RegionHeld3
set_option linter.unusedSimpArgs false
set_option linter.unusedVariables false
set_option maxHeartbeats 4000000
set_option maxRecDepth 100000
namespace Go.Proofs.YteldgdelmaeokaaGreatDoor
open Go.Proofs.Tryz Go.RowKit
theorem Oz (vD:Value) (l:List RM) (B:Nat) (w:World) (h:Qz w B vD l):
  Calls prog 34 #[.agg #[vD]] w fun e w'=> e= .returned (.int .i64 ((l.length:Int) - 1))∧Below w.heap.size w w':=by
 obtain ⟨A,c,rfl,hc,hm, -⟩:=h.open_
 clear h
 unfold maxLen at hm
 generalize l.length=n at*
 have hb:=Below.allocW w (.cells #[.slice A n c] 26) (Fu _)
 go_enter func34,ntmps34
 go_wp2
 go_ret
 exact ⟨rfl,hb⟩
theorem Mn (vD:Value) (l:List RM) (B:Nat) (w:World) (h:Qz w B vD l):
  Calls prog 58 #[.agg #[vD]] w fun e w'=> e= .returned (.int .i64 ((l.length:Int) - 1))∧Below w.heap.size w w':=by
 obtain ⟨A,c,rfl,hc,hm, -⟩:=h.open_
 clear h
 unfold maxLen at hm
 generalize l.length=n at*
 have hb:=Below.allocW w (.cells #[.slice A n c] 26) (Fu _)
 go_enter func58,ntmps58
 go_wp2
 go_ret
 exact ⟨rfl,hb⟩
theorem Tp {n:Nat} (h:0 < n):((n:Int) - 1)=((n - 1:Nat):Int):=by omega
def PartE (D:List Zi) (x:VM) (S:List ByteArray) (w:World) (lo g o:Nat) (e:Ending):Prop:=
 (Jk D (D.length - 1:Nat) x.d S=none∧e= .returned (.tuple #[.pointer none, .int .i64 (-1)]))∨
   ∃t y k g' o',Hs D x S w lo g o S.length t y k g' o'∧e= .returned (.tuple #[.pointer (some ⟨g',o',none⟩), .int .i64 (k:Nat)])
theorem partAt_any (vD:Value) (l:List RM) (x:VM) (lo g o:Nat) (vS:Value) (S:List ByteArray) (B:Nat) (w:World) (h:Qz w B vD l) (hB:B≤w.heap.size) (ok:∀r∈l,r.d.ok) (sm:∀r∈l,r.d.small 1048576) (hv:Yf (l.map RM.d)=true) (hl:0 < l.length)
  (hx:x.own lo w) (hs:x.d.size≤4194304) (hvx:Zn (l.map RM.d) (l.length - 1:Nat) x.d=true) (h0:w.cell? ⟨g,o,none⟩=some (.int .i64 x.n)) (h1:w.cell? ⟨g,o+1,none⟩=some x.vb) (h2:w.cell? ⟨g,o+2,none⟩=some x.vi)
  (hS:Va w w.heap.size vS S) (hSs:∀s∈S,s.size≤maxLen) (ht:Tab w):
  Calls prog 59 #[.agg #[vD], .pointer (some ⟨g,o,none⟩),vS] w fun e w'=> Below w.heap.size w w'∧PartE (l.map RM.d) x S w lo g o e:=by
 have hlm:(l.map RM.d).length=l.length:=List.length_map ..
 have hR:∀W,Below w.heap.size w W→Calls prog 58 #[.agg #[vD]] W fun e w'=> e= .returned (.int .i64 ((l.length:Int) - 1))∧Below W.heap.size W w':=fun W hb=> Mn vD l B W (h.below (hb.mono hB))
 rw [Tp hl] at hR
 have hst:Hs (l.map RM.d) x S w lo g o 0 [] x (l.length - 1) g o:=by
  have:=Hs.start (D:=l.map RM.d) (S:=S) hx hs (by rw [hlm];exact hvx) h0 h1 h2
  rwa [hlm] at this
 have hF:∀(k:Nat) (y:VM) (j:Nat) (hj:j < S.length) W,Fq (l.map RM.d) x.d S w w.heap.size j y k→Below w.heap.size w W→Calls prog 74 #[.agg #[vD], .int .i64 k, .agg #[.int .i64 y.n,y.vb,y.vi], .string S[j]] W fun e w'=> e= .returned (.int .i64 (Qy (l.map RM.d) k y.items.length S[j]))∧Below W.heap.size W w':=fun k y j hj W p hb=>
  Iw vD l k y S[j] w.heap.size W ((h.below (hb.mono hB)).more hB) hb.size ok sm (p.rd.bel hb) (by
   have:=Pa p.val (fun r hr=> by obtain ⟨q,hq,rfl⟩:=List.mem_map.1 hr;exact sm q hq)
   rwa [VM.items_d,List.length_map] at this) (hSs _ (Fw hj)) (Pb ht hb)
 have hC:∀(k:Nat) (hk:k < l.length) (n:Int) (g' o' i:Nat) W,Below w.heap.size w W→W.cell? ⟨g',o',none⟩=some (.int .i64 n)→i≤4194304→Calls prog 75 #[.agg #[vD], .int .i64 k, .pointer (some ⟨g',o',none⟩), .int .i64 i] W fun e w'=> e= .returned (.int .i64 (Qk l[k].d n i))∧Below W.heap.size W w':=fun k hk n g' o' i W hb hc hi=>
  Oe vD l k n g' o' i B W (h.below (hb.mono hB)) (by have:=hb.size;omega) sm hk (by
   have:=Yc (Ui hv (k:=k) (by rw [hlm];exact hk))
   rwa [List.getElem_map] at this) hc hi
 obtain ⟨A,c,rfl,hc,hm, -⟩:=h.open_
 obtain ⟨As,cs,rfl,hcs,hms,hsc⟩:=hS.one
 unfold maxLen at hms
 clear hx hs hvx h0 h1 h2 hS hSs ht h ok sm hv
 have HR:=Fs hR
 have HF:=Fs hF
 have HC:=Fs hC
 have HS:=Fs hsc
 have HST:=Fs hst
 clear hR hF hC hsc hst
 obtain ⟨W0,hW0⟩:∃W0,W0=w.alloc (.cells #[.slice A l.length c] 26):=⟨_,rfl⟩
 have hb0:Below w.heap.size w W0:=by rw [hW0];exact (Fv w.heap.size w).alloc (Fu _) _
 have y0:W0.cell? ⟨w.heap.size,0,none⟩=some (.slice A l.length c):=by rw [hW0];simp [go_sem]
 have hz0:W0.heap.size=w.heap.size+1:=by rw [hW0];simp
 generalize hr:l.length - 1=root at*
 have HLM:=Fs hlm
 have HRT:=Fs hr
 clear hlm hr hl hc hm
 go_enter func59,ntmps59
 go_wp2_with fail
 rw [←hW0]
 clear hW0
 refine (HR.out _ hb0).mono ?_
 rintro e w1 ⟨rfl,bel⟩
 have b1:=Zb bel hb0
 have y1:=Ec bel y0
 have z1:w.heap.size+1≤w1.heap.size:=by have:=bel.size;omega
 clear bel y0
 go_wp2
 go_loopw [1,8,10,11,16] (fun p r _ _ i wr=> ∃(j:Nat) (t:List Nat) (y:VM) (k g' o':Nat),j≤S.length∧i= .int .i64 j∧r= .int .i64 k∧p= .pointer (some ⟨g',o',none⟩)∧Below w1.heap.size w1 wr∧Hid (Hs (l.map RM.d) x S w lo g o j t y k g' o')) (fun _ _ _ _ i _=> S.length - (intOf i).toNat)
 case atStart=> exact ⟨0, [],x,root,g,o,Eb _,rfl,rfl,rfl,Fv _ _,HST⟩
 case round=>
  obtain ⟨j,t,y,k,g',o',hj,rfl,rfl,rfl,hb,HP⟩:=hrel
  by_cases hlt:j < S.length
  ·obtain ⟨bs,fs,rfl,hbs,hs0⟩:=HS.out j hlt
   have hbw:=b1.trans (hb.mono (by omega))
   have s0:=Zc y1 hb (by omega)
   have sj:=Zc hs0 hbw hbs
   have q0:=Ec hbw HP.out.c0
   have q1:=Ec hbw HP.out.c1
   have q2:=Ec hbw HP.out.c2
   have HF1:=Fs (fun W hb=> HF.out k y j hlt W HP.out.rdi hb)
   clear hs0
   rcases Yz (l.map RM.d) k y.items.length S[j] with hf|⟨i,hi,hf⟩
   ·have HN:=Fs (HP.out.rdi.stop hlt (by rw [hf];decide))
    rw [hf] at HF1
    clear hf
    generalize S[j]=sx at*
    go_wp2_with fail
    refine wp_region_held_drew (S:=(fun w9=> w9.cell? ⟨w.heap.size,0,none⟩=some (.slice A l.length c)∧w9.cell? ⟨g',o',none⟩=some (.int .i64 y.n)∧w9.cell? ⟨g',o'+1,none⟩=some y.vb∧w9.cell? ⟨g',o'+2,none⟩=some y.vi)) (by kernel_rfl) ?_ (fun hHeld=> ?_)
    ·(try dsimp only);exact ⟨s0,q0,q1,q2⟩
    refine Za 0 (some 20) hHeld _ ?_;try go_frame
    refine Za 1 (some 21) hHeld _ ?_;try go_frame
    refine Za 2 (some 22) hHeld _ ?_;try go_frame
    refine Za 3 (some 23) hHeld _ ?_;try go_frame
    refine Za 4 (some 24) hHeld _ ?_;try go_frame
    refine Za 5 (some 25) hHeld _ ?_;try go_frame
    refine Zh 6 (fun K hK=> ?_)
    go_simp
    refine (HF1.out _ hbw.drew).mono ?_;rintro e w7 ⟨rfl,bel7⟩;have bw:=Zb bel7 hbw.drew;have bb:=Zb bel7 ((Fv wr.heap.size wr).drew)
    (try go_wp2_with fail)
    refine hK.out _ _ ?_ (fun hHeld=> ?_)
    ·(try dsimp only);exact ⟨Ec bel7 s0,Ec bel7 q0,Ec bel7 q1,Ec bel7 q2⟩
    clear hK K
    try go_frame
    refine Za 7 (some 11) hHeld _ ?_;try go_frame
    refine wpAnyH_done (by kernel_rfl) ?_ _
    clear bb q0 q1 q2 s0 sj
    go_wp2
    go_ret2
    exact ⟨bw, .inl ⟨HN.out,rfl⟩⟩
   ·obtain ⟨bh,ch,ev,hown⟩:=Jp HP.out.own.row (by omega)
    obtain ⟨k',hk',HP'⟩:=HP.out.next hlt hf hi hown
    rw [List.getElem_map] at hk'
    have HPN:=Fs HP'
    have hkl:k < l.length:=by have:=HP.out.rdi.rng;rw [HLM.out] at this;exact this
    have hi4:i≤4194304:=by have:=HP.out.rdi.items;omega
    have HC1:=Fs (fun W hb hc=> HC.out k hkl y.n g' o' i W hb hc hi4)
    rw [hk'] at HC1
    rw [ev] at q2 HF1
    rw [hf] at HF1
    have hcap:y.items.length≤ch:=by
     have:=HP.out.own.rd.its.open_
     obtain ⟨Ai,ci,ei,h1,h2, -⟩:=this
     rw [ev] at ei
     simp only [Value.slice.injEq] at ei
     omega
    have hcap2:ch≤9223372036854775807:=by
     have:=HP.out.own.rd.its.open_
     obtain ⟨Ai,ci,ei,h1,h2, -⟩:=this
     rw [ev] at ei
     simp only [Value.slice.injEq] at ei
     unfold maxLen at h2
     omega
    clear hk' HP' hown hf ev
    generalize y.items[i]=y' at*
    generalize y.items.length=n at*
    generalize S[j]=sx at*
    go_wp2_with fail
    refine wp_region_held_drew (S:=(fun w9=> w9.cell? ⟨w.heap.size,0,none⟩=some (.slice A l.length c)∧w9.cell? ⟨g',o',none⟩=some (.int .i64 y.n)∧w9.cell? ⟨g',o'+1,none⟩=some y.vb∧w9.cell? ⟨g',o'+2,none⟩=some (.slice (some ⟨bh,0,none⟩) n ch))) (by kernel_rfl) ?_ (fun hHeld=> ?_)
    ·(try dsimp only);exact ⟨s0,q0,q1,q2⟩
    refine Za 0 (some 20) hHeld _ ?_;try go_frame
    refine Za 1 (some 21) hHeld _ ?_;try go_frame
    refine Za 2 (some 22) hHeld _ ?_;try go_frame
    refine Za 3 (some 23) hHeld _ ?_;try go_frame
    refine Za 4 (some 24) hHeld _ ?_;try go_frame
    refine Za 5 (some 25) hHeld _ ?_;try go_frame
    refine Zh 6 (fun K hK=> ?_)
    go_simp
    refine (HF1.out _ hbw.drew).mono ?_;rintro e w7 ⟨rfl,bel7⟩;have bw:=Zb bel7 hbw.drew;have bb:=Zb bel7 ((Fv wr.heap.size wr).drew)
    (try go_wp2_with fail)
    refine hK.out _ _ ?_ (fun hHeld=> ?_)
    ·(try dsimp only);exact ⟨Ec bel7 s0,Ec bel7 q0,Ec bel7 q1,Ec bel7 q2⟩
    clear hK K
    try go_frame
    refine Za 7 (some 11) hHeld _ ?_;try go_frame
    refine wpAnyH_done (by kernel_rfl) ?_ _
    have u0:=Ec bel7 s0
    have p0:=Ec bel7 q0
    have p1:=Ec bel7 q1
    have p2:=Ec bel7 q2
    clear q0 q1 q2 s0 sj bel7
    go_wp2_with fail
    refine wp_region_held_drew (S:=(fun w9=> w9.cell? ⟨w.heap.size,0,none⟩=some (.slice A l.length c)∧w9.cell? ⟨g',o',none⟩=some (.int .i64 y.n)∧w9.cell? ⟨g',o'+1,none⟩=some y.vb∧w9.cell? ⟨g',o'+2,none⟩=some (.slice (some ⟨bh,0,none⟩) n ch))) (by kernel_rfl) ?_ (fun hHeld=> ?_)
    ·(try dsimp only);exact ⟨u0,p0,p1,p2⟩
    refine Za 0 (some 29) hHeld _ ?_;try go_frame
    refine Za 1 (some 30) hHeld _ ?_;try go_frame
    refine Za 2 (some 31) hHeld _ ?_;try go_frame
    refine Za 3 (some 32) hHeld _ ?_;try go_frame
    refine Za 5 (some 34) hHeld _ ?_;try go_frame
    refine Za 6 (some 35) hHeld _ ?_;try go_frame
    refine Za 7 (some 36) hHeld _ ?_;try go_frame
    refine Za 8 (some 37) hHeld _ ?_;try go_frame
    refine Za 9 (some 38) hHeld _ ?_;try go_frame
    refine Za 10 (some 39) hHeld _ ?_;try go_frame
    refine Zh 4 (fun K hK=> ?_)
    go_simp
    refine (HC1.out _ bw.drew p0).mono ?_;rintro e w8 ⟨rfl,bel8⟩;have bw:=Zb bel8 bw.drew;have bb:=Zb bel8 bb.drew
    (try go_wp2_with fail)
    refine hK.out _ _ ?_ (fun hHeld=> ?_)
    ·(try dsimp only);exact ⟨Ec bel8 u0,Ec bel8 p0,Ec bel8 p1,Ec bel8 p2⟩
    clear hK K
    try go_frame
    refine Za 11 (some 8) hHeld _ ?_;try go_frame
    refine Za 12 (some 1) hHeld _ ?_;try go_frame
    refine wpAnyH_done (by kernel_rfl) ?_ _
    have HB:=Fs (hb.trans (bb.mono hb.size))
    clear bel8 bw bb u0 p0 p1 p2
    go_wp2
    go_roundw
    case rel=> exact ⟨j+1,t++ [i],y',k',bh,i*3,by omega,by go_num,rfl,by first|rfl|simp,HB.out,HPN⟩
    case measure=> simp [intOf];omega
  ·obtain rfl:j=S.length:=by omega
   have HB:=Fs (b1.trans (hb.mono (by omega)))
   clear hb
   go_wp2
   go_ret2
   exact ⟨HB.out, .inr ⟨t,y,k,g',o',HP.out,rfl⟩⟩
structure B3 (W:World) (g:Nat) (a b c:Value):Prop where
 lt:g < W.heap.size
 c0:W.cell? ⟨g,0,none⟩=some a
 c1:W.cell? ⟨g,1,none⟩=some b
 c2:W.cell? ⟨g,2,none⟩=some c
 f0:W.frozen? ⟨g,0,none⟩=false
 f1:W.frozen? ⟨g,1,none⟩=false
 f2:W.frozen? ⟨g,2,none⟩=false
theorem B3.keep {B:Nat} {W W':World} {g:Nat} {a b c:Value} (h:B3 W g a b c) (hb:Below B W W') (hg:g < B):B3 W' g a b c:=
 ⟨Ea h.lt hb.size,Zc h.c0 hb hg,Zc h.c1 hb hg,Zc h.c2 hb hg,(hb.frozen (p:=⟨g,0,none⟩) hg).trans h.f0,(hb.frozen (p:=⟨g,1,none⟩) hg).trans h.f1,(hb.frozen (p:=⟨g,2,none⟩) hg).trans h.f2⟩
theorem B3.later {W W':World} {g:Nat} {a b c:Value} (h:B3 W g a b c) (hb:Below W.heap.size W W'):B3 W' g a b c:=h.keep hb h.lt
theorem B3.new (W:World) (a b c:Value) (T:TypeId):B3 (W.alloc (.cells #[a,b,c] T)) W.heap.size a b c:=
 ⟨by simp,by simp [go_sem],by simp [go_sem],by simp [go_sem],by simp [go_sem],by simp [go_sem],by simp [go_sem]⟩
theorem B3.alloc {W:World} {g:Nat} {a b c:Value} (h:B3 W g a b c) (o:Obj):B3 (W.alloc o) g a b c:=h.later ((Fv _ _).alloc (Fu _) o)
theorem B3.set {W:World} {g:Nat} {a b c:Value} (h:B3 W g a b c) (a' b' c':Value):B3 (((W.setCell ⟨g,0,none⟩ a').setCell ⟨g,1,none⟩ b').setCell ⟨g,2,none⟩ c') g a' b' c':=by
 obtain ⟨lt,c0,c1,c2,f0,f1,f2⟩:=h
 have e:(((W.setCell ⟨g,0,none⟩ a').setCell ⟨g,1,none⟩ b').setCell ⟨g,2,none⟩ c')=Qu W g 0 [a',b',c']:=rfl
 have hc:∀i,i < ([a',b',c']:List Value).length→∃u,W.cell? ⟨g,0+i,none⟩=some u:=fun i hi=> by
  rw [Nat.zero_add]
  match i,hi with
  |0,_=> exact ⟨_,c0⟩
  |1,_=> exact ⟨_,c1⟩
  |2,_=> exact ⟨_,c2⟩
 have hp:=Lt g [a',b',c'] W 0 hc
 refine ⟨by simpa using lt,?_,?_,?_,?_,?_,?_⟩
 ·rw [e];simpa using hp 0 a' rfl
 ·rw [e];simpa using hp 1 b' rfl
 ·rw [e];simpa using hp 2 c' rfl
 all_goals simp only [World.frozen?_setCell];assumption
theorem Zk {W:World} {g:Nat} (a' b' c':Value) {b o:Nat} (hb:b≠g):(((W.setCell ⟨g,0,none⟩ a').setCell ⟨g,1,none⟩ b').setCell ⟨g,2,none⟩ c').cell? ⟨b,o,none⟩=W.cell? ⟨b,o,none⟩:=
 Ri (g:=g) hb [a',b',c'] W 0 o
theorem B3.set_other {W:World} {g q:Nat} {a b c:Value} (h:B3 W q a b c) (hq:q≠g) (a' b' c':Value):B3 (((W.setCell ⟨g,0,none⟩ a').setCell ⟨g,1,none⟩ b').setCell ⟨g,2,none⟩ c') q a b c:=by
 obtain ⟨lt,c0,c1,c2,f0,f1,f2⟩:=h
 refine ⟨by simpa using lt,by rw [Zk _ _ _ hq];exact c0,by rw [Zk _ _ _ hq];exact c1,by rw [Zk _ _ _ hq];exact c2,?_,?_,?_⟩
 all_goals simp only [World.frozen?_setCell];assumption
theorem Qm {B:Nat} {W W':World} {g:Nat} (h:Below B W W') (hg:B≤g) (a' b' c':Value):Below B W (((W'.setCell ⟨g,0,none⟩ a').setCell ⟨g,1,none⟩ b').setCell ⟨g,2,none⟩ c'):=
 ((h.setCell (p:=⟨g,0,none⟩) hg _).setCell (p:=⟨g,1,none⟩) hg _).setCell (p:=⟨g,2,none⟩) hg _
end Go.Proofs.YteldgdelmaeokaaGreatDoor
