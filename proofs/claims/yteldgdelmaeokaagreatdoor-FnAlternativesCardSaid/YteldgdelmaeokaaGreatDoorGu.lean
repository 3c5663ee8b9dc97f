/- The walk of spec.FindPart. Conditions: the description reads as its rules, which are small; the value reads as its data and is small; the text has at most 2^20 bytes. -/
import Derived.Test.YteldgdelmaeokaaGreatDoorGm
import Derived.Test.YteldgdelmaeokaaGreatDoorGn
import Derived.Test.YteldgdelmaeokaaGreatDoorGl
import Derived.WalkSpells
import Derived.WalkLawsBesides
import Derived.Deep.RegionHeld3
set_option linter.unusedSimpArgs false
set_option linter.unusedVariables false
set_option maxHeartbeats 4000000
set_option maxRecDepth 100000
namespace Go.Proofs.YteldgdelmaeokaaGreatDoor
open Go.Proofs.Tryz Go.RowKit
def noVal:Zv:= .mk 0 [] []
def Ya (D:List Zi) (x:Zv) (ok:Bool) (S:List ByteArray):Zv × Int × Bool:=
 if ok && (Qd D ((D.length:Int) - 1) && Zn D ((D.length:Int) - 1) x) then
  match Jk D (D.length - 1:Nat) x S with|none=> (noVal, -1,false)|some (k,y)=> (y,k,true)
 else (noVal, -1,false)
theorem findV_no {D:List Zi} {x:Zv} {ok:Bool} {S:List ByteArray} (h:(ok && (Qd D ((D.length:Int) - 1) && Zn D ((D.length:Int) - 1) x))=false):Ya D x ok S=(noVal, -1,false):=by
 unfold Ya;rw [if_neg (by rw [h];exact Bool.false_ne_true)]
theorem findV_none {D:List Zi} {x:Zv} {ok:Bool} {S:List ByteArray} (h:Jk D (D.length - 1:Nat) x S=none):Ya D x ok S=(noVal, -1,false):=by
 unfold Ya;rw [h];split <;> rfl
theorem Oo {D:List Zi} {x y:Zv} {ok:Bool} {S:List ByteArray} {k:Int} (h:(ok && (Qd D ((D.length:Int) - 1) && Zn D ((D.length:Int) - 1) x))=true) (hw:Jk D (D.length - 1:Nat) x S=some (k,y)):Ya D x ok S=(y,k,true):=by
 unfold Ya;rw [if_pos h,hw]
def Mu (f:Zv × Int × Bool) (w:World) (e:Ending) (w':World):Prop:=
 ∃v,e= .returned (.tuple #[v, .int .i64 f.2.1, .bool f.2.2])∧Ue f.1 w.heap.size w'.heap.size w' v∧Below w.heap.size w w'
theorem Lf (lo hi:Nat) (w:World):Ue noVal lo hi w (.agg #[.int .i64 0, .slice none 0 0, .slice none 0 0]):=
 ⟨.mk 0 [] (.slice none 0 0) (.slice none 0 0) [],by rw [VM.d_mk];rfl,rfl,⟨.mk ⟨rfl, .inl ⟨rfl,rfl⟩⟩ ⟨rfl, .inl ⟨rfl,rfl⟩⟩ (fun _ h=> by cases h),by rw [VM.bks_mk];exact List.nodup_nil,fun g h=> by rw [VM.bks_mk] at h;cases h⟩⟩
def KpX (n bx:Nat) (w w':World):Prop:=∀b o u,b < n→b≠bx→w.cell? ⟨b,o,none⟩=some u→w'.cell? ⟨b,o,none⟩=some u
theorem Xw (vD:Value) (l:List RM) (x:VM) (s:ByteArray) (B:Nat) (w:World) (h:Qz w B vD l) (hB:B≤w.heap.size) (ok:∀r∈l,r.d.ok) (sm:∀r∈l,r.d.small 1048576) (hx:x.rd w B) (hs:x.d.size≤4194304) (hss:s.size≤2097152):
  Calls prog 10 #[.agg #[vD],Qs x, .string s] w (Mu (Ya (l.map RM.d) x.d (Qt Zf s) (Yr Zf s)) w):=by
 have hlm:(l.map RM.d).length=l.length:=List.length_map ..
 have hR:∀W,Below w.heap.size w W→Calls prog 34 #[.agg #[vD]] W fun e w'=> e= .returned (.int .i64 ((l.length:Int) - 1))∧Below W.heap.size W w':=fun W hb=> Oz vD l B W (h.below (hb.mono hB))
 have hSP:∀W,Below w.heap.size w W→Calls prog 35 #[.string s] W (RdB (Yr Zf s) (Qt Zf s) W):=fun W hb=> Rb s W hss
 have hV:∀W,Below w.heap.size w W→Calls prog 15 #[.agg #[vD], .int .i64 ((l.length:Int) - 1),Qs x] W fun e w'=> e= .returned (.bool (Qd (l.map RM.d) ((l.length:Int) - 1) && Zn (l.map RM.d) ((l.length:Int) - 1) x.d))∧Below W.heap.size W w':=fun W hb=>
  Vl vD l _ x B W (h.below (hb.mono hB)) (by have:=hb.size;omega) ok sm (hx.bel (hb.mono hB)) hs
 have hF:∀(S:List ByteArray) (k:Nat) (y:VM) (j:Nat) (hj:j < S.length) W,Fq (l.map RM.d) x.d S w B j y k→Below w.heap.size w W→Calls prog 36 #[.agg #[vD], .int .i64 k, .agg #[.int .i64 y.n,y.vb,y.vi], .string S[j]] W fun e w'=> e= .returned (.int .i64 (Qy (l.map RM.d) k y.items.length S[j]))∧Below W.heap.size W w':=fun S k y j hj W p hb=>
  Pc vD l k y S[j] B W (h.below (hb.mono hB)) (by have:=hb.size;omega) ok sm (p.rd.bel (hb.mono hB)) (by
   have:=Pa p.val (fun r hr=> by obtain ⟨q,hq,rfl⟩:=List.mem_map.1 hr;exact sm q hq)
   rwa [VM.items_d,List.length_map] at this)
 have hC:Yf (l.map RM.d)=true→∀(k:Nat) (hk:k < l.length) (n:Int) (i:Nat) W,Below w.heap.size w W→i≤4194304→Calls prog 37 #[Ja l[k], .int .i64 n, .int .i64 i] W fun e w'=> e= .returned (.int .i64 (Qk l[k].d n i))∧Below W.heap.size W w':=fun hv k hk n i W hb hi=>
  Vm (l.map RM.d) l[k] n i B W ((h.2 _ (Fw hk)).below (hb.mono hB)) (by have:=hb.size;omega) (by
   have:=Yc (Ui hv (k:=k) (by rw [hlm];exact hk))
   rwa [List.getElem_map] at this) (sm _ (Fw hk)) hi
 have hCP:∀(y:VM) W,y.rd w B→y.d.size≤4194304→Below w.heap.size w W→Calls prog 31 #[.agg #[.int .i64 y.n,y.vb,y.vi]] W (Lm (Ue y.d) W):=fun y W hy hz hb=>
  Xx y B W (hy.bel (hb.mono hB)) (by have:=hb.size;omega) hz
 obtain ⟨A,c,rfl,hc,hm, -⟩:=h.open_
 have hRC:∀k (hk:k < l.length),_:=fun k hk=> Zw h k hk
 unfold maxLen at hm
 have HR:=Fs hR
 have HSP:=Fs hSP
 have HV:=Fs hV
 have HF:=Fs hF
 have HC:=Fs hC
 have HCP:=Fs hCP
 have HRC:=Fs hRC
 have HLM:=Fs hlm
 have HX:=Fs (Ft hx hs)
 clear hR hSP hV hF hC hCP hRC hlm ok sm h hs hss
 obtain ⟨Ax,cx,ex, -⟩:=hx.bytes.open_
 obtain ⟨Ay,cy,ey, -⟩:=hx.its.open_
 have HEX:=Fs (Ft ex ey)
 have hvm:Qs x= .agg #[.int .i64 x.n, .slice Ax x.b.length cx, .slice Ay x.items.length cy]:=by unfold Qs;rw [ex,ey]
 rw [hvm] at HV ⊢
 clear hx ex ey hvm
 obtain ⟨W0,hW0⟩:∃W0,W0=(((w.alloc (.cells #[.slice A l.length c] 26)).alloc (.cells #[.int .i64 x.n, .slice Ax x.b.length cx, .slice Ay x.items.length cy] 29)).alloc (.cells #[.int .i64 0, .slice none 0 0, .slice none 0 0] 29)):=⟨_,rfl⟩
 have hb0:Below w.heap.size w W0:=by rw [hW0];exact (((Fv w.heap.size w).alloc (Fu _) _).alloc (by simp) _).alloc (by simp;omega) _
 have hz0:W0.heap.size=w.heap.size+3:=by rw [hW0];simp
 have y0:W0.cell? ⟨w.heap.size,0,none⟩=some (.slice A l.length c):=by rw [hW0];simp [go_sem]
 have HV3:B3 W0 (w.heap.size+1) (.int .i64 x.n) (.slice Ax x.b.length cx) (.slice Ay x.items.length cy):=by
  rw [hW0]
  refine B3.alloc ?_ _
  have:=B3.new (w.alloc (.cells #[.slice A l.length c] 26)) (.int .i64 x.n) (.slice Ax x.b.length cx) (.slice Ay x.items.length cy) 29
  simpa using this
 have HR3:B3 W0 (w.heap.size+1+1) (.int .i64 0) (.slice none 0 0) (.slice none 0 0):=by
  rw [hW0]
  have:=B3.new ((w.alloc (.cells #[.slice A l.length c] 26)).alloc (.cells #[.int .i64 x.n, .slice Ax x.b.length cx, .slice Ay x.items.length cy] 29)) (.int .i64 0) (.slice none 0 0) (.slice none 0 0) 29
  simpa using this
 go_enter func10,ntmps10
 go_wp2_with fail
 rw [←hW0]
 clear hW0
 refine (HR.out _ hb0).mono ?_
 rintro e w1 ⟨rfl,bel⟩
 have b1:=Zb bel hb0
 have y1:=Ec bel y0
 have HV3:=HV3.later bel
 have HR3:=HR3.later bel
 have z1:w.heap.size+3≤w1.heap.size:=by have:=bel.size;omega
 clear bel y0 hb0
 go_wp2_with fail
 refine (HSP.out _ b1).mono ?_
 rintro e w2 ⟨vs,rfl,hrd,bel⟩
 have b2:=Zb bel b1
 have y2:=Ec bel y1
 have HV3:=HV3.later bel
 have HR3:=HR3.later bel
 have z2:w.heap.size+3≤w2.heap.size:=by have:=bel.size;omega
 obtain ⟨As,cs,rfl,hcs,hms,hsc⟩:=hrd.sl.one
 have hlo:∀ad,As=some ad→w.heap.size+3≤ad.block:=fun ad e=> by
  subst e
  have:=hrd.2.1 ad _ _ rfl
  omega
 unfold maxLen at hms
 have HLO:=Fs (Ft hlo hsc)
 clear bel y1 b1 z1 hrd hlo hsc
 cases hok:Qt Zf s
 ·clear HX HEX HRC HF HC HCP HR HSP HLO
  have HX:=Fs (findV_no (D:=l.map RM.d) (x:=x.d) (ok:=Qt Zf s) (S:=Yr Zf s) (by rw [hok];rfl))
  generalize Yr Zf s=S at*
  clear hok HV
  have HB:=Fs b2
  clear b2
  obtain ⟨lt,t0,t1,t2,f0,f1,f2⟩:=HR3
  obtain ⟨lt',p0,p1,p2,g0,g1,g2⟩:=HV3
  go_wp2
  rw [HX.out]
  refine bodyPost_ret (v:= .tuple #[.agg #[.int .i64 0, .slice none 0 0, .slice none 0 0], .int .i64 (-1), .bool false]) (by simp [results,results10,go_sem,t0,t1,t2]) rfl ⟨_,rfl,Lf _ _ _,?_⟩
  exact Qm HB.out (by omega) _ _ _
 ·cases hval:(Qd (l.map RM.d) ((l.length:Int) - 1) && Zn (l.map RM.d) ((l.length:Int) - 1) x.d)
  ·rw [hval] at HV
   have HX:=Fs (findV_no (D:=l.map RM.d) (x:=x.d) (ok:=Qt Zf s) (S:=Yr Zf s) (by rw [hok,HLM.out,hval];rfl))
   clear HEX HRC HF HC HCP HR HSP HLO hok hval
   generalize Yr Zf s=S at*
   obtain ⟨lt',p0,p1,p2,g0,g1,g2⟩:=HV3
   go_wp2_with fail
   refine (HV.out _ b2).mono ?_
   rintro e w3 ⟨rfl,bel⟩
   have HB:=Fs (Zb bel b2)
   have HR3:=HR3.later bel
   clear bel b2 p0 p1 p2 g0 g1 g2 lt'
   obtain ⟨lt,t0,t1,t2,f0,f1,f2⟩:=HR3
   go_wp2
   rw [HX.out]
   refine bodyPost_ret (v:= .tuple #[.agg #[.int .i64 0, .slice none 0 0, .slice none 0 0], .int .i64 (-1), .bool false]) (by simp [results,results10,go_sem,t0,t1,t2]) rfl ⟨_,rfl,Lf _ _ _,?_⟩
   exact Qm HB.out (by omega) _ _ _
  ·rw [hval] at HV
   have hkn:Qd (l.map RM.d) ((l.length:Int) - 1)=true∧Zn (l.map RM.d) ((l.length:Int) - 1) x.d=true:=by simpa using hval
   have hrg:=Vt hkn.1
   have hl:0 < l.length:=by omega
   have HCV:=Fs (HC.out (Ua hkn.1))
   have HXT:=Fs (show (Qt Zf s && (Qd (l.map RM.d) (((l.map RM.d).length:Int) - 1) && Zn (l.map RM.d) (((l.map RM.d).length:Int) - 1) x.d))=true by rw [hok,HLM.out,hval];rfl)
   have hst:Fq (l.map RM.d) x.d (Yr Zf s) w B 0 x (l.length - 1):=⟨HX.out.1,HX.out.2,by rw [←Tp hl];exact hkn.2,by rw [HLM.out,List.drop_zero]⟩
   have HST:=Fs hst
   have HRT:=Fs (Tp hl)
   have HEY:=HEX
   clear hkn hrg hok hval HC hst HR HSP HX HEX hl
   have HFS:=Fs (HF.out (Yr Zf s))
   clear HF
   generalize Yr Zf s=S at*
   obtain ⟨lt',p0,p1,p2,g0,g1,g2⟩:=HV3
   go_wp2_with fail
   refine (HV.out _ b2).mono ?_
   rintro e w3 ⟨rfl,bel⟩
   have b3:=Zb bel b2
   have HR3:=HR3.later bel
   have HV3:=B3.later ⟨lt',p0,p1,p2,g0,g1,g2⟩ bel
   have y3:=Ec bel y2
   have z3:w.heap.size+3≤w3.heap.size:=by have:=bel.size;omega
   have HSJ:=Fs (show ∀q (hq:q < S.length),∃b off,As=some ⟨b,off,none⟩∧w.heap.size+3≤b∧b < w3.heap.size∧w3.cell? ⟨b,off+q,none⟩=some (.string S[q]) from fun q hq=> by
    obtain ⟨b,off,e,hb,hc⟩:=HLO.out.2 q hq
    exact ⟨b,off,e,HLO.out.1 _ e,by have:=bel.size;omega,Ec bel hc⟩)
   clear bel b2 p0 p1 p2 g0 g1 g2 lt' HV HLO y2 z2
   go_wp2
   go_loopw [9,12,13] (fun r i _ wr=> ∃(j:Nat) (y:VM) (k:Nat),j≤S.length∧i= .int .i64 j∧r= .int .i64 k∧Below w.heap.size w wr∧Hid (KpX w3.heap.size (w.heap.size+1) w3 wr)∧w3.heap.size≤wr.heap.size∧B3 wr (w.heap.size+1) (.int .i64 y.n) y.vb y.vi∧B3 wr (w.heap.size+1+1) (.int .i64 0) (.slice none 0 0) (.slice none 0 0)∧Hid (Fq (l.map RM.d) x.d S w B j y k)) (fun _ i _ _=> S.length - (intOf i).toNat)
   case atStart=> exact ⟨0,x,l.length - 1,Eb _,rfl,by rw [HRT.out],b3,Fs (fun b o u _ _ h=> h),Fu _,by rw [HEY.out.1,HEY.out.2];exact HV3,HR3,HST⟩
   case round=>
    clear HV3 HR3 HST HRT HEY
    obtain ⟨j,y,k,hj,rfl,rfl,hbw,KP,zr,VB,RB,HP⟩:=hrel
    have s0:=KP.out _ _ _ (show w.heap.size < w3.heap.size by omega) (by omega) y3
    have HVB:=Fs VB
    obtain ⟨lv,q0,q1,q2,f0,f1,f2⟩:=VB
    by_cases hlt:j < S.length
    ·obtain ⟨bs,fs,rfl,hbs,hbs2,hs0⟩:=HSJ.out j hlt
     have sj:=KP.out _ _ _ hbs2 (by omega) hs0
     have HF1:=Fs (fun W hb=> HFS.out k y j hlt W HP.out hb)
     clear hs0
     rcases Yz (l.map RM.d) k y.items.length S[j] with hf|⟨i,hi,hf⟩
     ·have HN:=Fs (findV_none (ok:=Qt Zf s) (HP.out.stop hlt (by rw [hf];decide)))
      rw [hf] at HF1
      clear hf
      generalize S[j]=sx at*
      go_wp2_with fail
      refine wp_region_held_drew (S:=(fun w9=> w9.cell? ⟨w.heap.size,0,none⟩=some (.slice A l.length c)∧w9.cell? ⟨w.heap.size+1,0,none⟩=some (.int .i64 y.n)∧w9.cell? ⟨w.heap.size+1,1,none⟩=some y.vb∧w9.cell? ⟨w.heap.size+1,2,none⟩=some y.vi∧w9.cell? ⟨bs,fs+j,none⟩=some (.string sx))) (by kernel_rfl) ?_ (fun hHeld=> ?_)
      ·(try dsimp only);exact ⟨s0,q0,q1,q2,sj⟩
      refine Za 0 (some 37) hHeld _ ?_;try go_frame
      refine Za 1 (some 38) hHeld _ ?_;try go_frame
      refine Za 2 (some 39) hHeld _ ?_;try go_frame
      refine Za 3 (some 40) hHeld _ ?_;try go_frame
      refine Za 4 (some 41) hHeld _ ?_;try go_frame
      refine Za 5 (some 42) hHeld _ ?_;try go_frame
      refine Za 6 (some 43) hHeld _ ?_;try go_frame
      refine Zh 7 (fun K hK=> ?_)
      go_simp
      refine (HF1.out _ hbw.drew).mono ?_;rintro e w7 ⟨rfl,bel7⟩;have bw:=Zb bel7 hbw.drew;have bb:=Zb bel7 ((Fv wr.heap.size wr).drew)
      (try go_wp2_with fail)
      refine hK.out _ _ ?_ (fun hHeld=> ?_)
      ·(try dsimp only);exact ⟨Ec bel7 s0,Ec bel7 q0,Ec bel7 q1,Ec bel7 q2,Ec bel7 sj⟩
      clear hK K
      try go_frame
      refine Za 8 (some 13) hHeld _ ?_;try go_frame
      refine wpAnyH_done (by kernel_rfl) ?_ _
      have HB:=Fs bw
      have RB:=RB.later bb
      clear bb bw bel7 q0 q1 q2 s0 sj f0 f1 f2
      obtain ⟨lt,t0,t1,t2,f0,f1,f2⟩:=RB
      go_wp2
      rw [HN.out]
      refine bodyPost_ret (v:= .tuple #[.agg #[.int .i64 0, .slice none 0 0, .slice none 0 0], .int .i64 (-1), .bool false]) (by simp [results,results10,go_sem,t0,t1,t2]) rfl ⟨_,rfl,Lf _ _ _,?_⟩
      exact Qm HB.out (by omega) _ _ _
     ·obtain ⟨k',hk',HP'⟩:=HP.out.next hlt hf hi
      rw [List.getElem_map] at hk'
      have hkl:k < l.length:=by have:=HP.out.rng;rw [HLM.out] at this;exact this
      have hi4:i≤4194304:=by have:=HP.out.items;omega
      have HC1:=Fs (fun W hb=> HCV.out k hkl y.n i W hb hi4)
      rw [hk'] at HC1
      obtain ⟨b,off,A1,c1,A2,c2,A3,c3,A4,c4,rfl,hbB,e1,e2,e3,e4,m1,m2,m3,m4,hcell⟩:=HRC.out k hkl
      unfold Ja at HC1
      rw [e1,e2,e3,e4] at HC1
      obtain ⟨Ay2,cy2,ey2,hcy2,hmy2,hic⟩:=HP.out.rd.its.open_
      obtain ⟨bi,fi,rfl,hbi,i0,i1,i2⟩:=hic i hi
      obtain ⟨A5,c5,e5, -⟩:=HP'.rd.bytes.open_
      obtain ⟨A6,c6,e6, -⟩:=HP'.rd.its.open_
      clear f0 f1 f2
      have HPN:=Fs (Ft HP' (Ft e5 e6))
      rw [e5] at i1
      rw [e6] at i2
      rw [ey2] at q2 HF1
      rw [hf] at HF1
      unfold maxLen at hmy2
      have HCL:=Fs hcell
      clear hk' HP' hf ey2 hic m1 m2 m3 m4 e1 e2 e3 e4 hcell e5 e6
      generalize y.items[i]=y' at*
      generalize y.items.length=n at*
      generalize l[k]=r at*
      generalize r.d=d at*
      generalize S[j]=sx at*
      generalize y'.b.length=n5 at*
      generalize y'.items.length=n6 at*
      go_wp2_with fail
      refine wp_region_held_drew (S:=(fun w9=> w9.cell? ⟨w.heap.size,0,none⟩=some (.slice (some ⟨b,off,none⟩) l.length c)∧w9.cell? ⟨w.heap.size+1,0,none⟩=some (.int .i64 y.n)∧w9.cell? ⟨w.heap.size+1,1,none⟩=some y.vb∧w9.cell? ⟨w.heap.size+1,2,none⟩=some (.slice (some ⟨bi,fi,none⟩) n cy2)∧w9.cell? ⟨bs,fs+j,none⟩=some (.string sx))) (by kernel_rfl) ?_ (fun hHeld=> ?_)
      ·(try dsimp only);exact ⟨s0,q0,q1,q2,sj⟩
      refine Za 0 (some 37) hHeld _ ?_;try go_frame
      refine Za 1 (some 38) hHeld _ ?_;try go_frame
      refine Za 2 (some 39) hHeld _ ?_;try go_frame
      refine Za 3 (some 40) hHeld _ ?_;try go_frame
      refine Za 4 (some 41) hHeld _ ?_;try go_frame
      refine Za 5 (some 42) hHeld _ ?_;try go_frame
      refine Za 6 (some 43) hHeld _ ?_;try go_frame
      refine Zh 7 (fun K hK=> ?_)
      go_simp
      refine (HF1.out _ hbw.drew).mono ?_;rintro e w7 ⟨rfl,bel7⟩;have bw:=Zb bel7 hbw.drew;have bb:=Zb bel7 ((Fv wr.heap.size wr).drew)
      (try go_wp2_with fail)
      refine hK.out _ _ ?_ (fun hHeld=> ?_)
      ·(try dsimp only);exact ⟨Ec bel7 s0,Ec bel7 q0,Ec bel7 q1,Ec bel7 q2,Ec bel7 sj⟩
      clear hK K
      try go_frame
      refine Za 8 (some 13) hHeld _ ?_;try go_frame
      refine wpAnyH_done (by kernel_rfl) ?_ _
      have u0:=Ec bel7 s0
      have p0:=Ec bel7 q0
      have p1:=Ec bel7 q1
      have p2:=Ec bel7 q2
      have HB7:=Fs bb
      obtain ⟨x0,x1,x2,x3,x4,x5,x6,x7⟩:=HCL.out w7 (Zu bw hB)
      clear q0 q1 q2 s0 sj bel7 bb
      go_wp2_with fail
      refine wp_region_held_drew (S:=(fun w9=> w9.cell? ⟨w.heap.size,0,none⟩=some (.slice (some ⟨b,off,none⟩) l.length c)∧w9.cell? ⟨w.heap.size+1,0,none⟩=some (.int .i64 y.n)∧w9.cell? ⟨b,off+k*8,none⟩=some (.string d.name)∧w9.cell? ⟨b,off+k*8+1,none⟩=some (.int .i64 d.kind)∧w9.cell? ⟨b,off+k*8+2,none⟩=some (.int .i64 d.size)∧w9.cell? ⟨b,off+k*8+3,none⟩=some (.bool d.little)∧w9.cell? ⟨b,off+k*8+4,none⟩=some (.slice A1 d.bytes.length c1)∧w9.cell? ⟨b,off+k*8+5,none⟩=some (.slice A2 d.names.length c2)∧w9.cell? ⟨b,off+k*8+6,none⟩=some (.slice A3 d.tags.length c3)∧w9.cell? ⟨b,off+k*8+7,none⟩=some (.slice A4 d.kids.length c4))) (by kernel_rfl) ?_ (fun hHeld=> ?_)
      ·(try dsimp only);exact ⟨u0,p0,x0,x1,x2,x3,x4,x5,x6,x7⟩
      refine Za 0 (some 48) hHeld _ ?_;try go_frame
      refine Za 1 (some 49) hHeld _ ?_;try go_frame
      refine Za 2 (some 50) hHeld _ ?_;try go_frame
      refine Za 3 (some 51) hHeld _ ?_;try go_frame
      refine Za 4 (some 52) hHeld _ ?_;try go_frame
      refine Za 5 (some 53) hHeld _ ?_;try go_frame
      refine Za 6 (some 54) hHeld _ ?_;try go_frame
      refine Za 7 (some 55) hHeld _ ?_;try go_frame
      refine Zh 8 (fun K hK=> ?_)
      go_simp
      refine (HC1.out _ bw.drew).mono ?_;rintro e w8 ⟨rfl,bel8⟩;have bw:=Zb bel8 bw.drew;have bb:=Zb bel8 HB7.out.drew
      (try go_wp2_with fail)
      refine hK.out _ _ ?_ (fun hHeld=> ?_)
      ·(try dsimp only);exact ⟨Ec bel8 u0,Ec bel8 p0,Ec bel8 x0,Ec bel8 x1,Ec bel8 x2,Ec bel8 x3,Ec bel8 x4,Ec bel8 x5,Ec bel8 x6,Ec bel8 x7⟩
      clear hK K
      try go_frame
      refine Za 9 (some 9) hHeld _ ?_;try go_frame
      refine wpAnyH_done (by kernel_rfl) ?_ _
      have s0:=Ec bel8 u0
      have q0:=Ec bel8 p0
      have q1:=Ec bel8 p1
      have q2:=Ec bel8 p2
      have j0:=Zc i0 (bw.mono hB) hbi
      have j1:=Zc i1 (bw.mono hB) hbi
      have j2:=Zc i2 (bw.mono hB) hbi
      have VB8:=HVB.out.later bb
      have HV8:=Fs VB8
      have HB8:=Fs (Ft bb (Ft bw (RB.later bb)))
      obtain ⟨-, -, -, -,f0,f1,f2⟩:=VB8
      clear u0 p0 p1 p2 x0 x1 x2 x3 x4 x5 x6 x7 i0 i1 i2 bel8 bw bb
      go_wp2
      go_roundw
      case rel=>
       obtain ⟨h1,h2,h3⟩:=HB8.out
       refine ⟨j+1,y',k',by omega,by go_num,rfl,Qm h2 (by omega) _ _ _,Fs (fun b o u hb hne h=> ?_),?_,?_,h3.set_other (by omega) _ _ _,Fs HPN.out.1⟩
       ·rw [Zk _ _ _ hne];exact Ec h1 (KP.out _ _ _ hb hne h)
       ·have:=h1.size;simp only [World.size_setCell];omega
       ·rw [HPN.out.2.1,HPN.out.2.2];exact HV8.out.set _ _ _
      case measure=> simp [intOf];omega
    ·obtain rfl:j=S.length:=by omega
     have HXX:=Fs (Oo (S:=S) HXT.out (HP.out.done (Fu _)))
     clear f0 f1 f2
     go_wp2_with fail
     refine (HCP.out y _ HP.out.rd HP.out.sz hbw).mono ?_
     rintro e w4 ⟨v,rfl,⟨x',hd,rfl,ho⟩,bel⟩
     have HB:=Fs (Ft (Zb bel hbw) hbw.size)
     obtain ⟨A5,c5,e5, -⟩:=ho.own.rd.bytes.open_
     obtain ⟨A6,c6,e6, -⟩:=ho.own.rd.its.open_
     have hv':Qs x'= .agg #[.int .i64 x'.n, .slice A5 x'.b.length c5, .slice A6 x'.items.length c6]:=by unfold Qs;rw [e5,e6]
     rw [hv']
     have HH:=Fs (Ft hd (Ft ho hv'))
     have RB:=RB.later bel
     clear hd ho hv' e5 e6 bel hbw q0 q1 q2 s0
     obtain ⟨lt,t0,t1,t2,f0,f1,f2⟩:=RB
     go_wp2
     rw [HXX.out]
     obtain ⟨hd,ho,hv'⟩:=HH.out
     refine bodyPost_ret (v:= .tuple #[.agg #[.int .i64 x'.n, .slice A5 x'.b.length c5, .slice A6 x'.items.length c6], .int .i64 k, .bool true]) (by simp [results,results10,go_sem,t0,t1,t2]) rfl ⟨_,rfl,⟨x',hd,hv'.symm,?_⟩,?_⟩
     ·have h1:=HB.out.2
      have h2:=HB.out.1.size
      refine (ho.keep (lo':=w.heap.size+1+1) (hi':=w.heap.size+3) ?_ (.inr (by omega))).wide (by omega) (by simp)
      repeat (refine Xq.setCell ?_ (by omega) (by omega) _)
      exact Xq.refl _ _ _
     ·exact Qm HB.out.1 (by omega) _ _ _
end Go.Proofs.YteldgdelmaeokaaGreatDoor
