/- The walks of spec.EqualBytes and spec.EqualValues, the latter where the two are the same. Conditions: the values read as their data and are small. -/
import Derived.Test.YteldgdelmaeokaaGreatDoorGda
import Derived.Test.YteldgdelmaeokaaGreatDoorGf
import Derived.Test.YteldgdelmaeokaaGreatDoorGn
import Derived.WalkSpells
import Derived.WalkLawsBesides
import Derived.BigQuiet
import Derived.Deep.QuietTactic
import Derived.Deep.RegionHeld3
import Derived.Deep.DeepCutAuto
set_option linter.unusedSimpArgs false
set_option linter.unusedVariables false
set_option maxHeartbeats 4000000
set_option maxRecDepth 100000
namespace Go.Proofs.YteldgdelmaeokaaGreatDoor
open Go.Proofs.Tryz Go.RowKit
theorem specEqB_any (v v':Value) (l l':List UInt8) (B B':Nat) (w:World) (h:Xu w B v l) (h':Xu w B' v' l'):
  Calls prog 33 #[v,v'] w (Quiet w (.bool (l==l'))):=by
 obtain ⟨A,c,rfl,hc,hm,hcell⟩:=h.open_
 obtain ⟨A',c',rfl,hc',hm',hcell'⟩:=h'.open_
 unfold maxLen at hm hm'
 clear h h'
 by_cases hne:l.length=l'.length
 ·have HE:=Fs hne
  have hb:((l.length:Int)==(l'.length:Int))=true:=by rw [hne];simp
  have hlen1:l.length≤l'.length:=by omega
  have hlen2:l'.length≤l.length:=by omega
  clear hne
  go_enter func33,ntmps33
  go_wp2
  go_loopw [5] (fun i wr=> ∃k n:Nat,k≤l.length∧i= .int .i64 k∧wr=w.drewN n∧l.take k=l'.take k) (fun i _=> l.length - (intOf i).toNat)
  case atStart=> exact ⟨0,0,Eb _,rfl,rfl,rfl⟩
  case round=>
   obtain ⟨k,n,hk,rfl,rfl,ht⟩:=hrel
   have HT:=Fs ht
   clear ht
   by_cases hlt:k < l.length
   ·obtain ⟨b,off,rfl,_,hc0⟩:=hcell k hlt
    obtain ⟨b',off',rfl,_,hc0'⟩:=hcell' k (by omega)
    have hlt':k < l'.length:=by omega
    clear hcell hcell'
    by_cases he:l[k]=l'[k]
    ·have HX:=Fs (take_next hlt (by omega) HT.out he)
     have hbe:((l[k].toNat:Int)==(l'[k].toNat:Int))=true:=by rw [he];simp
     clear he
     go_wp2
     go_quiet (fail)
     go_wp2
     go_roundw
     case rel=> exact ⟨k+1,_,by omega,by go_num,rfl,HX.out⟩
     case measure=> simp [intOf];omega
    ·have hbe:((l[k].toNat:Int)==(l'[k].toNat:Int))=false:=by
      rw [beq_eq_false_iff_ne];intro hx;exact he (UInt8.toNat_inj.1 (by omega))
     have HX:=Fs (show (l==l')=false by
      rw [beq_eq_false_iff_ne];rintro rfl;exact he rfl)
     clear he
     go_wp2
     go_quiet (fail)
     go_wp2
     go_ret
     exact ⟨Zd HX.out.symm,_,World.drewN_drewN _ _ _⟩
   ·have HX:=Fs (show (l==l')=true by
     have h1:=HT.out
     have h2:=HE.out
     rw [List.take_of_length_le (by omega),List.take_of_length_le (by omega)] at h1
     rw [h1];simp)
    clear hcell hcell'
    go_wp2
    go_ret
    exact ⟨Zd HX.out.symm,_,rfl⟩
 ·have hb:((l.length:Int)==(l'.length:Int))=false:=by rw [beq_eq_false_iff_ne];omega
  have HX:=Fs (show (l==l')=false by rw [beq_eq_false_iff_ne];rintro rfl;exact hne rfl)
  clear hne hcell hcell'
  go_enter func33,ntmps33
  go_wp2
  go_ret
  exact ⟨Zd HX.out.symm,0,rfl⟩
def EqSC (x:VM):Prop:=∀(y:VM) (B:Nat) (w:World),x.d=y.d→x.rd w B→y.rd w B→B≤w.heap.size→x.d.size≤4194304→Calls prog 9 #[Qs x,Qs y] w fun e w'=> e= .returned (.bool true)∧Below w.heap.size w w'
theorem Ls (x:VM):EqSC x:=by
 induction x using VM.induct with
 |h n bs vb vi l ih=>
 intro y B w hd hx hy hB hs
 obtain ⟨n',bs',vb',vi',l'⟩:=y
 rw [VM.d_mk,VM.d_mk] at hd
 injection hd with e1 e2 e3
 subst e1 e2
 have hll:l'.length=l.length:=by have:=congrArg List.length e3;simpa using this.symm
 have hel:∀j (h1:j < l.length) (h2:j < l'.length),l[j].d=l'[j].d:=fun j h1 h2=> by
  have:=List.getElem_of_eq e3 (i:=j) (by simpa using h1)
  simpa using this
 have hle:bs.length≤4194304∧l.length≤4194304:=by
  have h2:=Zv.length_le (l.map VM.d)
  rw [List.length_map] at h2
  rw [VM.d_mk,Zv.size_mk] at hs
  omega
 have hsi:∀j (h1:j < l.length),l[j].d.size≤4194304:=fun j h1=> VM.size_item (x:= .mk n bs vb vi l) h1 hs
 obtain ⟨hbl,hil⟩:=hle
 have hxb:=hx.bytes
 have hyb:=hy.bytes
 have hxi:=hx.its
 have hyi:=hy.its
 simp only [VM.vb_mk,VM.b_mk,VM.vi_mk,VM.items_mk] at hxb hyb hxi hyi
 obtain ⟨A1,c1,rfl, -⟩:=hxb.open_
 obtain ⟨A2,c2,rfl, -⟩:=hyb.open_
 obtain ⟨A3,c3,rfl, -,hm3,hc3⟩:=hxi.open_
 obtain ⟨A4,c4,rfl, -,hm4,hc4⟩:=hyi.open_
 have HI:=Fs (Ft hxi (Ft hyi (Ft hxb hyb)))
 have HC3:=Fs hc3
 have HC4:=Fs hc4
 have HEL:=Fs hel
 have HSI:=Fs hsi
 have IH:=Fs ih
 have HLL:=Fs hll
 unfold Qs
 simp only [VM.n_mk,VM.vb_mk,VM.vi_mk]
 rw [hll]
 clear hx hy hxb hyb hxi hyi hc3 hc4 hel hsi ih hll e3 hs hm3 hm4
 obtain ⟨W0,hW0⟩:∃W0,W0=(w.alloc (.cells #[.int .i64 n, .slice A1 bs.length c1, .slice A3 l.length c3] 29)).alloc (.cells #[.int .i64 n, .slice A2 bs.length c2, .slice A4 l.length c4] 29):=⟨_,rfl⟩
 have hb0:Below w.heap.size w W0:=by rw [hW0];exact ((Fv w.heap.size w).alloc (Fu _) _).alloc (by simp) _
 have x0:W0.cell? ⟨w.heap.size,0,none⟩=some (.int .i64 n):=by rw [hW0];simp [go_sem]
 have x1:W0.cell? ⟨w.heap.size,1,none⟩=some (.slice A1 bs.length c1):=by rw [hW0];simp [go_sem]
 have x2:W0.cell? ⟨w.heap.size,2,none⟩=some (.slice A3 l.length c3):=by rw [hW0];simp [go_sem]
 have y0:W0.cell? ⟨w.heap.size+1,0,none⟩=some (.int .i64 n):=by rw [hW0];simp [go_sem]
 have y1:W0.cell? ⟨w.heap.size+1,1,none⟩=some (.slice A2 bs.length c2):=by rw [hW0];simp [go_sem]
 have y2:W0.cell? ⟨w.heap.size+1,2,none⟩=some (.slice A4 l.length c4):=by rw [hW0];simp [go_sem]
 have HB0:=Fs hb0
 have hz0:=hb0.size
 go_enter func9,ntmps9
 go_upto_region 1 with fail
 rw [←hW0]
 clear hW0 hb0
 go_wp2_with (go_at_call 33;refine (specEqB_any _ _ bs bs B B W0 (HI.out.2.2.1.below (HB0.out.mono hB)) (HI.out.2.2.2.below (HB0.out.mono hB))).mono ?_;rintro e w1 ⟨rfl,nn,rfl⟩;have hbb:(bs==bs)=true:=(by simp))
 have hdn:Below W0.heap.size W0 (W0.drewN nn):=Yn (Fv _ _) nn
 go_loopw [5] (fun i wr=> ∃j:Nat,j≤l.length∧i= .int .i64 j∧Below W0.heap.size W0 wr) (fun i _=> l.length - (intOf i).toNat)
 case atStart=> exact ⟨0,Eb _,rfl,hdn⟩
 case round=>
  clear hdn
  obtain ⟨j,hj,rfl,hb⟩:=hrel
  have bw:=Zb hb HB0.out
  have hzr:=bw.size
  have HB:=Fs hb
  have HBW:=Fs bw
  have x2:=Ec hb x2
  have y2:=Ec hb y2
  clear hb x0 x1 y0 y1
  by_cases hlt:j < l.length
  ·obtain ⟨b3,f3,rfl,hb3,p0,p1,p2⟩:=HC3.out j hlt
   have hlt':j < l'.length:=by have:=HLL.out;omega
   obtain ⟨b4,f4,rfl,hb4,q0,q1,q2⟩:=HC4.out j hlt'
   obtain ⟨P1,d1,P2,d2,ev1,ev2, -⟩:=HI.out.1.at_ j hlt
   obtain ⟨Q1,g1,Q2,g2,ew1,ew2, -⟩:=HI.out.2.1.at_ j hlt'
   have hd:=HEL.out j hlt hlt'
   have p0:=Zc p0 (bw.mono hB) hb3
   have p1:=Zc p1 (bw.mono hB) hb3
   have p2:=Zc p2 (bw.mono hB) hb3
   have q0:=Zc q0 (bw.mono hB) hb4
   have q1:=Zc q1 (bw.mono hB) hb4
   have q2:=Zc q2 (bw.mono hB) hb4
   rw [ev1] at p1
   rw [ev2] at p2
   rw [ew1] at q1
   rw [ew2] at q2
   have hE:∀W,Below w.heap.size w W→Calls prog 9 #[Qs l[j],Qs l'[j]] W fun e w'=> e= .returned (.bool true)∧Below W.heap.size W w':=fun W hb=> IH.out l[j] (Fw hlt) l'[j] B W hd (HI.out.1.2 _ (Fw hlt)|>.bel (hb.mono hB)) (HI.out.2.1.2 _ (Fw hlt')|>.bel (hb.mono hB)) (by have:=hb.size;omega) (HSI.out j hlt)
   unfold Qs at hE
   rw [ev1,ev2,ew1,ew2] at hE
   have HE:=Fs hE
   have bq:=(Fv wr.heap.size wr).drew
   have bw:=HBW.out.drew
   have hb3w:b3 < w.heap.size:=by omega
   have hb4w:b4 < w.heap.size:=by omega
   have hjl:=hlt
   clear hE hd ev1 ev2 ew1 ew2
   go_wp2_with fail
   refine wp_region_held_drew (S:=(fun w9=> w9.cell? ⟨w.heap.size,2,none⟩=some (.slice (some ⟨b3,f3,none⟩) l.length c3)∧w9.cell? ⟨w.heap.size+1,2,none⟩=some (.slice (some ⟨b4,f4,none⟩) l.length c4)∧w9.cell? ⟨b3,f3+j*3,none⟩=some (.int .i64 l[j].n)∧w9.cell? ⟨b3,f3+j*3+1,none⟩=some (.slice P1 l[j].b.length d1)∧w9.cell? ⟨b3,f3+j*3+2,none⟩=some (.slice P2 l[j].items.length d2)∧w9.cell? ⟨b4,f4+j*3,none⟩=some (.int .i64 l'[j].n)∧w9.cell? ⟨b4,f4+j*3+1,none⟩=some (.slice Q1 l'[j].b.length g1)∧w9.cell? ⟨b4,f4+j*3+2,none⟩=some (.slice Q2 l'[j].items.length g2))) (by kernel_rfl) ?_ (fun hHeld=> ?_)
   ·(try dsimp only);exact ⟨x2,y2,p0,p1,p2,q0,q1,q2⟩
   refine Za 0 (some 35) hHeld _ ?_;try go_frame
   refine Za 1 (some 36) hHeld _ ?_;try go_frame
   refine Za 2 (some 37) hHeld _ ?_;try go_frame
   refine Za 3 (some 38) hHeld _ ?_;try go_frame
   refine Za 4 (some 39) hHeld _ ?_;try go_frame
   refine Za 5 (some 40) hHeld _ ?_;try go_frame
   refine Za 6 (some 41) hHeld _ ?_;try go_frame
   refine Za 7 (some 42) hHeld _ ?_;try go_frame
   refine Za 8 (some 43) hHeld _ ?_;try go_frame
   refine Za 9 (some 44) hHeld _ ?_;try go_frame
   refine Zh 10 (fun K hK=> ?_)
   go_simp
   refine (HE.out _ bw).mono ?_;rintro e w6 ⟨rfl,bel6⟩;have bq:=Zb bel6 bq;have bw:=Zb bel6 bw
   (try go_wp2_with fail)
   refine hK.out _ _ ?_ (fun hHeld=> ?_)
   ·(try dsimp only);exact ⟨Ec bq x2,Ec bq y2,Ec bq p0,Ec bq p1,Ec bq p2,Ec bq q0,Ec bq q1,Ec bq q2⟩
   clear hK K
   try go_frame
   refine Za 11 (some 46) hHeld _ ?_;try go_frame
   refine wpAnyH_done (by kernel_rfl) ?_ _
   have hbf:=Fs (Zb bq HB.out)
   clear p0 p1 p2 q0 q1 q2 x2 y2 bq bw hHeld
   go_wp2
   go_roundw
   case rel=> exact ⟨j+1,by omega,by go_num,hbf.out⟩
   case measure=> simp [intOf];omega
  ·clear bw
   go_wp2
   go_ret
   exact ⟨rfl,HBW.out⟩
end Go.Proofs.YteldgdelmaeokaaGreatDoor
