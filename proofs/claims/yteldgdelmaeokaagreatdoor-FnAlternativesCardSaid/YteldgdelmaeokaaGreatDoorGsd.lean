/- The walks of spec.SelectAlternative and spec.SetOption. Conditions: the description reads as its drawn rules; the value reads as its data and is small; the text has at most 2^21 bytes. -/
import Derived.Test.YteldgdelmaeokaaGreatDoorGdk
import Derived.Test.YteldgdelmaeokaaGreatDoorGdj
import Derived.Test.YteldgdelmaeokaaGreatDoorGrc
import Derived.Test.YteldgdelmaeokaaGreatDoorGrd
import Derived.WalkSpells
import Derived.WalkLawsBesides
import Derived.IntWalk
import Derived.Deep.RegionHeld3
import Derived.Deep.DeepCutAuto
import Derived.Deep.CutBlock
set_option linter.unusedSimpArgs false
set_option linter.unusedVariables false
set_option maxHeartbeats 8000000
set_option maxRecDepth 100000
namespace Go.Proofs.YteldgdelmaeokaaGreatDoor
open Go.Proofs.Tryz Go.RowKit
theorem specSel_any (vD:Value) (l:List RM) (x:VM) (s:ByteArray) (tag:Int) (B:Nat) (w:World) (h:Qz w B vD l) (hB:B≤w.heap.size) (ok:∀r∈l,r.d.ok) (sm:∀r∈l,r.d.small 1048576) (hD:Ud (l.map RM.d)) (h9:l.length≤9) (hx:x.rd w B) (hs:x.d.size≤2097152) (hss:s.size≤2097152):
  Calls prog 14 #[.agg #[vD],Qs x, .string s, .int .i64 tag] w (Uw (Ue (Qv (l.map RM.d) x.d (Qt Zf s) (Yr Zf s) (Vd (l.map RM.d) tag)).1) (.bool (Qv (l.map RM.d) x.d (Qt Zf s) (Yr Zf s) (Vd (l.map RM.d) tag)).2) w):=by
 have hlm:(l.map RM.d).length=l.length:=List.length_map ..
 have hR:∀k (hk:k < (l.map RM.d).length),Lk (l.map RM.d) k hk:=fun k hk=> hD.ruK (by rw [hlm];exact h9) hk
 have hF:∀W,Below w.heap.size w W→Calls prog 29 #[.agg #[vD],Qs x, .string s, .int .i64 7] W (Mu (partV (l.map RM.d) x.d (Qt Zf s) (Yr Zf s) 7) W):=fun W hb=>
  Lx vD l x s 7 B W (h.below (hb.mono hB)) (by have:=hb.size;omega) ok sm (hx.bel (hb.mono hB)) (by omega) hss
 have hCX:∀W,Below w.heap.size w W→Calls prog 31 #[Qs x] W (Lm (Ue x.d) W):=fun W hb=>
  Xx x B W (hx.bel (hb.mono hB)) (by have:=hb.size;omega) (by omega)
 have hRP:∀(z:VM) W,Below w.heap.size w W→z.rd W W.heap.size→z.d.size≤4194304→Calls prog 32 #[.agg #[vD],Qs x, .string s,Qs z] W (Uw (Ue (Qv (l.map RM.d) x.d (Qt Zf s) (Yr Zf s) (Kh (l.map RM.d) z.d)).1) (.bool (Qv (l.map RM.d) x.d (Qt Zf s) (Yr Zf s) (Kh (l.map RM.d) z.d)).2) W):=fun z W hb hz hzs=>
  Lr vD l x z s W.heap.size W ((h.below (hb.mono hB)).more (by have:=hb.size;omega)) (Fu _) ok sm ((hx.bel (hb.mono hB)).more (by have:=hb.size;omega)) (by omega) hz hzs hss
 have hDV:∀q,q < l.length→∀W,Below w.heap.size w W→Calls prog 43 #[.agg #[vD], .int .i64 q] W (DvE (l.map RM.d) q W):=fun q hq W hb=>
  Gt vD l q B W (h.below (hb.mono hB)) (by have:=hb.size;omega) ok sm hD h9 hq
 have hC:∀(k:Nat) (hk:k < l.length) (n:Int) W,Below w.heap.size w W→Calls prog 37 #[Ja l[k], .int .i64 n, .int .i64 0] W fun e w'=> e= .returned (.int .i64 (Qk l[k].d n 0))∧Below W.heap.size W w':=fun k hk n W hb=>
  Vm (l.map RM.d) l[k] n 0 B W ((h.2 _ (Fw hk)).below (hb.mono hB)) (by have:=hb.size;omega) (by
   have:=(hR k (by rw [hlm];exact hk)).good
   rwa [List.getElem_map] at this) (sm _ (Fw hk)) (by omega)
 have hKS:∀(k:Nat) (hk:k < l.length) j (hj:j < l[k].d.kids.length),∃(bk ok:Nat) (A5:Option Addr) (c5:Nat),l[k].vk= .slice A5 l[k].d.kids.length c5∧A5=some ⟨bk,ok,none⟩∧bk < B∧w.cell? ⟨bk,ok+j,none⟩=some (.int .i64 l[k].d.kids[j]):=fun k hk j hj=> by
  obtain ⟨A5,c5,e5, -, -,hc5⟩:=(h.2 _ (Fw hk)).k.one
  obtain ⟨bk,ok,e6,hbk,hc6⟩:=hc5 j hj
  exact ⟨bk,ok,A5,c5,e5,e6,hbk,hc6⟩
 obtain ⟨A,c,rfl,hc,hm, -⟩:=h.open_
 have hRC:∀(k:Nat) (hk:k < l.length),_:=fun k hk=> Zw h k hk
 obtain ⟨Ax,cx,ex, -⟩:=hx.bytes.open_
 obtain ⟨Ay,cy,ey, -⟩:=hx.its.open_
 have hvx:Qs x= .agg #[.int .i64 x.n, .slice Ax x.b.length cx, .slice Ay x.items.length cy]:=by unfold Qs;rw [ex,ey]
 rw [hvx] at hF hCX hRP ⊢
 obtain ⟨FY,FK,FB,hf⟩:∃a b c,Ya (l.map RM.d) x.d (Qt Zf s) (Yr Zf s)=(a,b,c):=⟨_,_,_,rfl⟩
 rw [Ij hf] at hF
 obtain ⟨PB,hpb⟩:∃b,(FB && Xj (l.map RM.d) FK 7)=b:=⟨_,rfl⟩
 rw [hpb] at hF
 have hP1:PB=true→∃(k:Nat) (hk:k < l.length),FK=k∧l[k].d.kind=7∧FB=true∧Zn (l.map RM.d) k FY=true:=fun e=> by
  rw [e,Bool.and_eq_true] at hpb
  rw [hpb.1] at hf
  obtain ⟨hv,hw⟩:=Xn hf
  simp only [Bool.and_eq_true] at hv
  have h3:=hv.2.2
  obtain ⟨q,e0,hq⟩:=Jy h3
  rw [show ((l.map RM.d).length:Int) - 1=((l.map RM.d).length - 1:Nat) by omega] at h3
  have hvy:=Xl h3 hw
  obtain ⟨k,rfl,hk⟩:=Jy hvy
  have hki:=hpb.2
  rw [Xr hk,decide_eq_true_eq,List.getElem_map] at hki
  exact ⟨k,by rwa [hlm] at hk,rfl,hki,hpb.1,hvy⟩
 have hP0:PB=false→∀chg:Int→Zv→Option Zv,(∀y,Xj (l.map RM.d) FK 7=false→chg FK y=none)→Qv (l.map RM.d) x.d (Qt Zf s) (Yr Zf s) chg=(x.d,false):=fun e chg hn=> by
  rw [e] at hpb
  cases FB with
  |false=> exact Ot hf _
  |true=> exact Xz (Xn hf).2 (hn _ (by rw [Bool.true_and] at hpb;exact hpb))
 have HF:=Fs hF
 have HCX:=Fs hCX
 have HRP:=Fs hRP
 have HDV:=Fs hDV
 have HC:=Fs hC
 have HRC:=Fs hRC
 have HKS:=Fs hKS
 have HRR:=Fs hR
 have HFV:=Fs (Ft hf (Ft hP0 hP1))
 have HXS:=Fs hs
 unfold maxLen at hm
 clear hF hCX hRP hDV hC hRC hKS hR hlm hf hpb hP0 hP1 h hx ok sm hs ex ey hvx hc hss hD
 obtain ⟨W0,hW0⟩:∃W0,W0=((w.alloc (.cells #[.slice A l.length c] 26)).alloc (.cells #[.int .i64 x.n, .slice Ax x.b.length cx, .slice Ay x.items.length cy] 29)).alloc (.cells #[.int .i64 0, .slice none 0 0, .slice none 0 0] 29):=⟨_,rfl⟩
 have hb0:Below w.heap.size w W0:=by rw [hW0];exact (((Fv w.heap.size w).alloc (Fu _) _).alloc (by simp) _).alloc (by simp;omega) _
 have KD:=Fs (show Zo W0 w.heap.size 26 #[.slice A l.length c] by rw [hW0];exact ((Zo.new w _ _).alloc _).alloc _)
 have KX:=Fs (show Zo W0 (w.heap.size+1) 29 #[.int .i64 x.n, .slice Ax x.b.length cx, .slice Ay x.items.length cy] by rw [hW0];have:=(Zo.new (w.alloc (.cells #[.slice A l.length c] 26)) 29 #[.int .i64 x.n, .slice Ax x.b.length cx, .slice Ay x.items.length cy]).alloc (.cells #[.int .i64 0, .slice none 0 0, .slice none 0 0] 29);simpa using this)
 have KR:=Fs (show Zo W0 (w.heap.size+1+1) 29 #[.int .i64 0, .slice none 0 0, .slice none 0 0] by rw [hW0];have:=Zo.new ((w.alloc (.cells #[.slice A l.length c] 26)).alloc (.cells #[.int .i64 x.n, .slice Ax x.b.length cx, .slice Ay x.items.length cy] 29)) 29 #[.int .i64 0, .slice none 0 0, .slice none 0 0];simpa using this)
 have s0:W0.cell? ⟨w.heap.size,0,none⟩=some (.slice A l.length c):=KD.out.cell 0 rfl
 obtain ⟨⟨v0,v1,v2⟩, -⟩:=KX.out.c3
 have hzz:w.heap.size+1+1 < W0.heap.size:=KR.out.lt
 have HB0:=Fs hb0
 clear hb0
 go_enter func14,ntmps14
 go_upto_region 1 with fail
 rw [←hW0]
 clear hW0
 go_wp2_with fail
 refine (HF.out _ HB0.out).mono ?_
 rintro e w1 ⟨v,rfl,⟨y,hyd,rfl,ho⟩,bel⟩
 dsimp only at hyd ho ⊢
 obtain ⟨Ap,cp,e1, -⟩:=ho.own.rd.bytes.open_
 obtain ⟨Aq,cq,e2, -⟩:=ho.own.rd.its.open_
 have hvy:Qs y= .agg #[.int .i64 y.n, .slice Ap y.b.length cp, .slice Aq y.items.length cq]:=by unfold Qs;rw [e1,e2]
 rw [hvy]
 obtain ⟨w2,hw2⟩:∃V,V=w1.alloc (.cells #[.int .i64 y.n, .slice Ap y.b.length cp, .slice Aq y.items.length cq] 29):=⟨_,rfl⟩
 have h12:Below w1.heap.size w1 w2:=by rw [hw2];exact (Fv _ _).alloc (Fu _) _
 have KP:=Fs (show Zo w2 w1.heap.size 29 #[.int .i64 y.n, .slice Ap y.b.length cp, .slice Aq y.items.length cq] by rw [hw2];exact Zo.new w1 _ _)
 have b02:=bel.trans (h12.mono bel.size)
 have HB2:=Fs (Zb b02 HB0.out)
 have hzw1:W0.heap.size≤w1.heap.size:=bel.size
 have hzp:w1.heap.size < w2.heap.size:=KP.out.lt
 have KD:=Fs (KD.out.below b02)
 have KX:=Fs (KX.out.below b02)
 have KR:=Fs (KR.out.below b02)
 have HY:=Fs (Ft hyd (Ft (ho.keep (Xq.of_below h12 0 0) (.inr (Eb _))) (Ft e1 e2)))
 clear hyd ho e1 e2 hvy bel h12 b02 s0 v0 v1 v2 HF
 go_upto_region 2 with fail
 rw [←hw2]
 clear hw2
 have s0:w2.cell? ⟨w.heap.size,0,none⟩=some (.slice A l.length c):=KD.out.cell 0 rfl
 obtain ⟨⟨v0,v1,v2⟩, -⟩:=KX.out.c3
 go_cut [32] (fun s32 wx=> ∃bb:Bool,s32= .bool bb∧Hid (bb=true→Qv (l.map RM.d) x.d (Qt Zf s) (Yr Zf s) (Vd (l.map RM.d) tag)=(x.d,false))∧Hid (bb=false→PB=true∧∃(k:Nat) (hk:k < l.length) (q:Nat),FK=k∧q < l.length∧Qk l[k].d tag 0=q∧Vd (l.map RM.d) tag FK FY=some (.mk tag [] [Jw (l.map RM.d) q])∧Oc (l.map RM.d) FK tag=q)∧Below w2.heap.size w2 wx)
 case first=>
  cases PB with
  |false=>
   have HN:=Fs (HFV.out.2.1 rfl (Vd (l.map RM.d) tag) fun y hn=> by unfold Vd;rw [hn];rfl)
   go_wp2
   go_meet
   exact ⟨true,rfl,Fs fun _=> HN.out,Fs fun e=> (by cases e),Fv _ _⟩
  |true=>
   obtain ⟨k,hk,rfl,hkd,hFB,hvy⟩:=HFV.out.2.2 rfl
   have hlm:(l.map RM.d).length=l.length:=List.length_map ..
   have hkD:k < (l.map RM.d).length:=by rw [hlm];exact hk
   have hge:(l.map RM.d)[k]=l[k].d:=List.getElem_map ..
   have hik:Xj (l.map RM.d) k 7=true:=by rw [Xr hkD,hge];simp [hkd]
   have hit:Oc (l.map RM.d) k tag=Qk l[k].d tag 0:=by rw [Gl hkD,hge]
   have h7:=item_7 HRR.out hkD (by rw [hge];exact hkd) tag
   have hf:=HFV.out.1
   rw [hFB] at hf
   have hft:=Xn hf
   have hH:(Qk l[k].d tag 0= -1∧Qv (l.map RM.d) x.d (Qt Zf s) (Yr Zf s) (Vd (l.map RM.d) tag)=(x.d,false))∨∃q:Nat,q < l.length∧Qk l[k].d tag 0=q∧Vd (l.map RM.d) tag k FY=some (.mk tag [] [Jw (l.map RM.d) q]):=by
    rcases h7 with ⟨-,e⟩|⟨j,q, -, -, -, -, -,hqk,e⟩
    ·refine .inl ⟨by rw [←hit];exact e,Xz hft.2 ?_⟩
     unfold Vd
     rw [if_neg]
     rw [e]
     simp
    ·refine .inr ⟨q,by omega,by rw [←hit];exact e,?_⟩
     unfold Vd selV
     rw [if_pos (by rw [e,hik];simp),e,Int.toNat_natCast]
   have hHC:∀W,Below w.heap.size w W→Calls prog 37 #[Ja l[k], .int .i64 tag, .int .i64 0] W fun e w'=> e= .returned (.int .i64 (Qk l[k].d tag 0))∧Below W.heap.size W w':=fun W hb=> HC.out k hk tag W hb
   have hRC:=HRC.out k hk
   obtain ⟨b,off,A1,c1,A2,c2,A3,c3,A4,c4,rfl,hbB,e1,e2,e3,e4, -, -, -, -,hcell⟩:=hRC
   unfold Ja at hHC
   rw [e1,e2,e3,e4] at hHC
   obtain ⟨x0,x1,x2,x3,x4,x5,x6,x7⟩:=hcell w2 (Zu HB2.out hB)
   have HHC:=Fs hHC
   have HHH:=Fs hH
   have HIT:=Fs hit
   have hnl:l.length≤9223372036854775807:=by omega
   clear hHC hH hit h7 hf hft hik hge hlm hkD hkd hvy hcell e1 e2 e3 e4
   go_wp2_with fail
   refine (HHC.out _ HB2.out).mono ?_
   rintro e w3 ⟨rfl,bel3⟩
   rcases HHH.out with ⟨e,hn⟩|⟨q,hq,e,hsc⟩
   ·have HN:=Fs hn
    have HBL:=Fs bel3
    clear hn bel3
    rw [e]
    go_wp2
    go_meet
    exact ⟨true,rfl,Fs fun _=> HN.out,Fs fun e=> (by cases e),HBL.out⟩
   ·have HN:=Fs (show true=true∧∃(k':Nat) (hk:k' < l.length) (q:Nat),(k:Int)=k'∧q < l.length∧Qk l[k'].d tag 0=q∧Vd (l.map RM.d) tag k FY=some (.mk tag [] [Jw (l.map RM.d) q])∧Oc (l.map RM.d) k tag=q from ⟨rfl,k,hk,q,rfl,hq,e,hsc,by rw [HIT.out];exact e⟩)
    have HBL:=Fs bel3
    clear hsc bel3
    rw [e]
    have hqd:decide ((q:Int) < 0)=false:=Fx (by omega)
    go_wp2
    go_meet
    exact ⟨false,rfl,Fs fun e=> (by cases e),Fs fun _=> HN.out,HBL.out⟩
 obtain ⟨bb,rfl,hbt,hbf,bel⟩:=hcut
 obtain ⟨w3,hw3⟩:∃V,V=wc:=⟨_,rfl⟩
 rw [←hw3] at bel ⊢
 clear hw3
 have HB3:=Fs (Zb bel HB2.out)
 have KD:=Fs (KD.out.below bel)
 have KX:=Fs (KX.out.below bel)
 have KR:=Fs (KR.out.below bel)
 have hz23:=bel.size
 clear bel s0 v0 v1 v2 KP HY
 have s0:w3.cell? ⟨w.heap.size,0,none⟩=some (.slice A l.length c):=KD.out.cell 0 rfl
 obtain ⟨⟨v0,v1,v2⟩, -⟩:=KX.out.c3
 cases bb with
 |true=>
  have HX:=Fs (hbt.out rfl)
  go_wp2_with fail
  refine (HCX.out _ (HB3.out)).mono ?_
  rintro e wc ⟨vc,rfl,hoc,belc⟩
  have HB:=Fs (Zb belc (HB3.out))
  have KR:=Fs (KR.out.below belc)
  obtain ⟨Ac,cc,Ac',cc',rfl⟩:=hoc.agg
  have HO:=Fs hoc
  have HZ:=Fs belc.size
  clear hoc belc
  obtain ⟨⟨t0,t1,t2⟩,f0,f1,f2⟩:=KR.out.c3
  go_wp2
  rw [HX.out]
  refine bodyPost_ret (v:= .tuple #[.agg #[.int .i64 x.d.n, .slice Ac x.d.b.length cc, .slice Ac' x.d.items.length cc'], .bool false]) (by simp [results,results14,go_sem,t0,t1,t2]) rfl ⟨_,rfl,?_,Qm HB.out (by omega) _ _ _⟩
  have hz:=HZ.out
  refine (HO.out.set3 (g:=w.heap.size+1+1) (.inr (by omega)) _ _ _).wide (by omega) (by simp)
 |false=>
  obtain ⟨hPB,k,hk,q,rfl,hq,hit,hsc, -⟩:=hbf.out rfl
  have hlm:(l.map RM.d).length=l.length:=List.length_map ..
  obtain ⟨k',hk',ekk,hkd,hFB,hvy⟩:=HFV.out.2.2 hPB
  have hf:=HFV.out.1
  rw [hFB] at hf
  have hX:=edit_rep (fun k hk y P _ hc=> (Fe HRR.out (by rw [hlm];exact h9) hk hc).2.1) (by rw [hlm];exact hk) hf hsc
  have HX:=Fs hX
  have hHC:∀W,Below w.heap.size w W→Calls prog 37 #[Ja l[k], .int .i64 tag, .int .i64 0] W fun e w'=> e= .returned (.int .i64 q)∧Below W.heap.size W w':=fun W hb=> by rw [←hit];exact HC.out k hk tag W hb
  have hRC:=HRC.out k hk
  have hsz:(Jw (l.map RM.d) q).size≤589824:=Nat.le_trans (Fp HRR.out q (by rw [hlm];exact hq)).2 (sB_bd (by omega))
  obtain ⟨b,off,A1,c1,A2,c2,A3,c3,A4,c4,rfl,hbB,e1,e2,e3,e4, -, -, -, -,hcell⟩:=hRC
  unfold Ja at hHC
  rw [e1,e2,e3,e4] at hHC
  obtain ⟨x0,x1,x2,x3,x4,x5,x6,x7⟩:=hcell w3 (Zu HB3.out hB)
  have HHC:=Fs hHC
  have HDQ:=Fs (HDV.out q hq)
  have hnl:l.length≤9223372036854775807:=by omega
  have bq:=(Fv w3.heap.size w3).drew
  clear hHC hX hit hsc hlm hk' ekk hkd hFB hvy hf hcell e1 e2 e3 e4 hbt hbf hPB HC HCX
  generalize Qv (l.map RM.d) x.d (Qt Zf s) (Yr Zf s) (Vd (l.map RM.d) tag)=ff at*
  go_wp2_with fail
  refine wp_region_held_drew (S:=(fun w9=> w9.cell? ⟨w.heap.size,0,none⟩=some (.slice (some ⟨b,off,none⟩) l.length c)∧w9.cell? ⟨w.heap.size+1,0,none⟩=some (.int .i64 x.n)∧w9.cell? ⟨w.heap.size+1,1,none⟩=some (.slice Ax x.b.length cx)∧w9.cell? ⟨w.heap.size+1,2,none⟩=some (.slice Ay x.items.length cy)∧w9.cell? ⟨b,off+k*8,none⟩=some (.string l[k].d.name)∧w9.cell? ⟨b,off+k*8+1,none⟩=some (.int .i64 l[k].d.kind)∧w9.cell? ⟨b,off+k*8+2,none⟩=some (.int .i64 l[k].d.size)∧w9.cell? ⟨b,off+k*8+3,none⟩=some (.bool l[k].d.little)∧w9.cell? ⟨b,off+k*8+4,none⟩=some (.slice A1 l[k].d.bytes.length c1)∧w9.cell? ⟨b,off+k*8+5,none⟩=some (.slice A2 l[k].d.names.length c2)∧w9.cell? ⟨b,off+k*8+6,none⟩=some (.slice A3 l[k].d.tags.length c3)∧w9.cell? ⟨b,off+k*8+7,none⟩=some (.slice A4 l[k].d.kids.length c4))) (by kernel_rfl) ?_ (fun hHeld=> ?_)
  ·(try dsimp only);exact ⟨s0,v0,v1,v2,x0,x1,x2,x3,x4,x5,x6,x7⟩
  refine Za 0 (some 35) hHeld _ ?_;try go_frame
  refine Za 1 (some 36) hHeld _ ?_;try go_frame
  refine Za 2 (some 37) hHeld _ ?_;try go_frame
  refine Za 3 (some 38) hHeld _ ?_;try go_frame
  refine Za 4 (some 39) hHeld _ ?_;try go_frame
  refine Za 5 (some 40) hHeld _ ?_;try go_frame
  refine Za 6 (some 41) hHeld _ ?_;try go_frame
  refine Za 7 (some 42) hHeld _ ?_;try go_frame
  refine Za 8 (some 43) hHeld _ ?_;try go_frame
  refine Za 9 (some 44) hHeld _ ?_;try go_frame
  refine Za 10 (some 45) hHeld _ ?_;try go_frame
  refine Zh 11 (fun K hK=> ?_)
  go_simp
  refine (HHC.out _ (Zb bq HB3.out)).mono ?_;rintro e4 w4 ⟨rfl,bel⟩;have bq:=Zb bel bq
  (try go_wp2_with fail)
  refine hK.out _ _ ?_ (fun hHeld=> ?_)
  ·(try dsimp only);first|exact ⟨Ec bq s0,Ec bq v0,Ec bq v1,Ec bq v2,Ec bq x0,Ec bq x1,Ec bq x2,Ec bq x3,Ec bq x4,Ec bq x5,Ec bq x6,Ec bq x7⟩|exact ⟨(Zk _ _ _ (by omega)).trans (Ec bq s0),(Zk _ _ _ (by omega)).trans (Ec bq v0),(Zk _ _ _ (by omega)).trans (Ec bq v1),(Zk _ _ _ (by omega)).trans (Ec bq v2),(Zk _ _ _ (by omega)).trans (Ec bq x0),(Zk _ _ _ (by omega)).trans (Ec bq x1),(Zk _ _ _ (by omega)).trans (Ec bq x2),(Zk _ _ _ (by omega)).trans (Ec bq x3),(Zk _ _ _ (by omega)).trans (Ec bq x4),(Zk _ _ _ (by omega)).trans (Ec bq x5),(Zk _ _ _ (by omega)).trans (Ec bq x6),(Zk _ _ _ (by omega)).trans (Ec bq x7)⟩
  clear hK K
  try go_frame
  refine Zh 12 (fun K hK=> ?_)
  go_simp
  refine (HDQ.out _ (Zb bq HB3.out)).mono ?_;rintro e5 w5 ⟨xx,rfl,hxo,hxs,bel⟩;obtain ⟨A5,c5,e5, -⟩:=hxo.own.rd.bytes.open_;obtain ⟨A6,c6,e6, -⟩:=hxo.own.rd.its.open_;unfold Qs;rw [e5,e6];have hz5:=bq.size;have bq:=Zb bel bq;have HXO:=Fs (Ft hxo (Ft hxs (Ft e5 e6)));clear hxo hxs e5 e6
  (try go_wp2_with fail)
  refine hK.out _ _ ?_ (fun hHeld=> ?_)
  ·(try dsimp only);first|exact ⟨Ec bq s0,Ec bq v0,Ec bq v1,Ec bq v2,Ec bq x0,Ec bq x1,Ec bq x2,Ec bq x3,Ec bq x4,Ec bq x5,Ec bq x6,Ec bq x7⟩|exact ⟨(Zk _ _ _ (by omega)).trans (Ec bq s0),(Zk _ _ _ (by omega)).trans (Ec bq v0),(Zk _ _ _ (by omega)).trans (Ec bq v1),(Zk _ _ _ (by omega)).trans (Ec bq v2),(Zk _ _ _ (by omega)).trans (Ec bq x0),(Zk _ _ _ (by omega)).trans (Ec bq x1),(Zk _ _ _ (by omega)).trans (Ec bq x2),(Zk _ _ _ (by omega)).trans (Ec bq x3),(Zk _ _ _ (by omega)).trans (Ec bq x4),(Zk _ _ _ (by omega)).trans (Ec bq x5),(Zk _ _ _ (by omega)).trans (Ec bq x6),(Zk _ _ _ (by omega)).trans (Ec bq x7)⟩
  clear hK K
  try go_frame
  refine Zh 13 (fun K hK=> ?_)
  (try go_simp)
  obtain ⟨X3,hX3⟩:∃V,V=w5.alloc (.cells #[.int .i64 xx.n, .slice A5 xx.b.length c5, .slice A6 xx.items.length c6] 29):=⟨_,rfl⟩;rw [←hX3];have hbl:Below w5.heap.size w5 X3:=(by rw [hX3];exact (Fv _ _).alloc (Fu _) _);have hbk3:Zo X3 w5.heap.size 29 (Ze xx).toArray:=(by rw [hX3];unfold Ze;rw [HXO.out.2.2.1,HXO.out.2.2.2];exact Zo.new w5 _ _);have HG:=Fs ((Qg.one (lo:=w3.heap.size) (o:=0) (hi:=w3.heap.size) hbk3 (HXO.out.1.keep (Xq.of_below hbl 0 0) (.inr (Eb _))) (by exact hz5) (by exact hz5) (by have:=bq.size;omega) (by omega)).fin tag);have bq:=Zb hbl bq;obtain ⟨z,hzd,hzv,hzo⟩:=HG.out;have hRz:=HRP.out z X3 (Zb bq HB3.out) hzo.own.rd (by rw [hzd,Zv.size_mk,List.map_cons,List.map_nil,Zv.sizes_cons,Zv.sizes_nil,HXO.out.2.1,List.length_nil];omega);rw [←hzv] at hRz;have hzd2:z.d= .mk tag [] [Jw (l.map RM.d) q]:=(by rw [hzd,List.map_cons,List.map_nil,HXO.out.2.1]);rw [hzd2,HX.out] at hRz;have HRZ:=Fs hRz;clear hX3 hbl hbk3 hRz hzd hzv hzo hzd2 HG
  refine hK.out _ _ ?_ (fun hHeld=> ?_)
  ·(try dsimp only);first|exact ⟨Ec bq s0,Ec bq v0,Ec bq v1,Ec bq v2,Ec bq x0,Ec bq x1,Ec bq x2,Ec bq x3,Ec bq x4,Ec bq x5,Ec bq x6,Ec bq x7⟩|exact ⟨(Zk _ _ _ (by omega)).trans (Ec bq s0),(Zk _ _ _ (by omega)).trans (Ec bq v0),(Zk _ _ _ (by omega)).trans (Ec bq v1),(Zk _ _ _ (by omega)).trans (Ec bq v2),(Zk _ _ _ (by omega)).trans (Ec bq x0),(Zk _ _ _ (by omega)).trans (Ec bq x1),(Zk _ _ _ (by omega)).trans (Ec bq x2),(Zk _ _ _ (by omega)).trans (Ec bq x3),(Zk _ _ _ (by omega)).trans (Ec bq x4),(Zk _ _ _ (by omega)).trans (Ec bq x5),(Zk _ _ _ (by omega)).trans (Ec bq x6),(Zk _ _ _ (by omega)).trans (Ec bq x7)⟩
  clear hK K
  try go_frame
  refine Za 14 (some 49) hHeld _ ?_;try go_frame
  refine Zh 15 (fun K hK=> ?_)
  go_simp
  refine HRZ.out.mono ?_;rintro e6 w6 ⟨v6,rfl,ho6,bel⟩;obtain ⟨A7,c7,A8,c8,rfl⟩:=ho6.agg;have hz6:=bq.size;have bq:=Zb bel bq;have KR6:=KR.out.below bq;obtain ⟨⟨r0,r1,r2⟩,g0,g1,g2⟩:=KR6.c3;have HO6:=Fs (Ft ho6 (Ft hz6 bel.size));clear ho6 bel
  (try go_wp2_with fail)
  refine hK.out _ _ ?_ (fun hHeld=> ?_)
  ·(try dsimp only);first|exact ⟨Ec bq s0,Ec bq v0,Ec bq v1,Ec bq v2,Ec bq x0,Ec bq x1,Ec bq x2,Ec bq x3,Ec bq x4,Ec bq x5,Ec bq x6,Ec bq x7⟩|exact ⟨(Zk _ _ _ (by omega)).trans (Ec bq s0),(Zk _ _ _ (by omega)).trans (Ec bq v0),(Zk _ _ _ (by omega)).trans (Ec bq v1),(Zk _ _ _ (by omega)).trans (Ec bq v2),(Zk _ _ _ (by omega)).trans (Ec bq x0),(Zk _ _ _ (by omega)).trans (Ec bq x1),(Zk _ _ _ (by omega)).trans (Ec bq x2),(Zk _ _ _ (by omega)).trans (Ec bq x3),(Zk _ _ _ (by omega)).trans (Ec bq x4),(Zk _ _ _ (by omega)).trans (Ec bq x5),(Zk _ _ _ (by omega)).trans (Ec bq x6),(Zk _ _ _ (by omega)).trans (Ec bq x7)⟩
  clear hK K
  try go_frame
  refine Za 16 (some 51) hHeld _ ?_;try go_frame
  refine Za 17 (some 52) hHeld _ ?_;try go_frame
  refine Zh 18 (fun K hK=> ?_)
  (try go_simp)
  go_simp
  refine hK.out _ _ ?_ (fun hHeld=> ?_)
  ·(try dsimp only);first|exact ⟨Ec bq s0,Ec bq v0,Ec bq v1,Ec bq v2,Ec bq x0,Ec bq x1,Ec bq x2,Ec bq x3,Ec bq x4,Ec bq x5,Ec bq x6,Ec bq x7⟩|exact ⟨(Zk _ _ _ (by omega)).trans (Ec bq s0),(Zk _ _ _ (by omega)).trans (Ec bq v0),(Zk _ _ _ (by omega)).trans (Ec bq v1),(Zk _ _ _ (by omega)).trans (Ec bq v2),(Zk _ _ _ (by omega)).trans (Ec bq x0),(Zk _ _ _ (by omega)).trans (Ec bq x1),(Zk _ _ _ (by omega)).trans (Ec bq x2),(Zk _ _ _ (by omega)).trans (Ec bq x3),(Zk _ _ _ (by omega)).trans (Ec bq x4),(Zk _ _ _ (by omega)).trans (Ec bq x5),(Zk _ _ _ (by omega)).trans (Ec bq x6),(Zk _ _ _ (by omega)).trans (Ec bq x7)⟩
  clear hK K
  try go_frame
  refine Za 19 (some 9) hHeld _ ?_;try go_frame
  refine wpAnyH_done (by kernel_rfl) ?_ _
  have HBF:=Fs (Zb bq HB3.out)
  obtain ⟨⟨t0,t1,t2⟩, -⟩:=(KR6.put3 (.int .i64 ff.1.n) (.slice A7 ff.1.b.length c7) (.slice A8 ff.1.items.length c8)).c3
  clear bq KR6 r0 r1 r2 g0 g1 g2 s0 v0 v1 v2 x0 x1 x2 x3 x4 x5 x6 x7 hHeld
  go_wp2
  refine bodyPost_ret (v:= .tuple #[.agg #[.int .i64 ff.1.n, .slice A7 ff.1.b.length c7, .slice A8 ff.1.items.length c8], .bool ff.2]) (by simp [results,results14,go_sem,t0,t1,t2]) rfl ⟨_,rfl,?_,Qm HBF.out (by omega) _ _ _⟩
  obtain ⟨ho6,h6,h7⟩:=HO6.out
  refine (ho6.set3 (g:=w.heap.size+1+1) (.inr (by omega)) _ _ _).wide (by omega) (by simp)
theorem specOpt_any (vD:Value) (l:List RM) (x:VM) (s:ByteArray) (pr:Bool) (B:Nat) (w:World) (h:Qz w B vD l) (hB:B≤w.heap.size) (ok:∀r∈l,r.d.ok) (sm:∀r∈l,r.d.small 1048576) (hD:Ud (l.map RM.d)) (h9:l.length≤9) (hx:x.rd w B) (hs:x.d.size≤2097152) (hss:s.size≤2097152):
  Calls prog 18 #[.agg #[vD],Qs x, .string s, .bool pr] w (Uw (Ue (Qv (l.map RM.d) x.d (Qt Zf s) (Yr Zf s) (Uf (l.map RM.d) pr)).1) (.bool (Qv (l.map RM.d) x.d (Qt Zf s) (Yr Zf s) (Uf (l.map RM.d) pr)).2) w):=by
 have hlm:(l.map RM.d).length=l.length:=List.length_map ..
 have hR:∀k (hk:k < (l.map RM.d).length),Lk (l.map RM.d) k hk:=fun k hk=> hD.ruK (by rw [hlm];exact h9) hk
 have hF:∀W,Below w.heap.size w W→Calls prog 29 #[.agg #[vD],Qs x, .string s, .int .i64 8] W (Mu (partV (l.map RM.d) x.d (Qt Zf s) (Yr Zf s) 8) W):=fun W hb=>
  Lx vD l x s 8 B W (h.below (hb.mono hB)) (by have:=hb.size;omega) ok sm (hx.bel (hb.mono hB)) (by omega) hss
 have hCX:∀W,Below w.heap.size w W→Calls prog 31 #[Qs x] W (Lm (Ue x.d) W):=fun W hb=>
  Xx x B W (hx.bel (hb.mono hB)) (by have:=hb.size;omega) (by omega)
 have hRP:∀(z:VM) W,Below w.heap.size w W→z.rd W W.heap.size→z.d.size≤4194304→Calls prog 32 #[.agg #[vD],Qs x, .string s,Qs z] W (Uw (Ue (Qv (l.map RM.d) x.d (Qt Zf s) (Yr Zf s) (Kh (l.map RM.d) z.d)).1) (.bool (Qv (l.map RM.d) x.d (Qt Zf s) (Yr Zf s) (Kh (l.map RM.d) z.d)).2) W):=fun z W hb hz hzs=>
  Lr vD l x z s W.heap.size W ((h.below (hb.mono hB)).more (by have:=hb.size;omega)) (Fu _) ok sm ((hx.bel (hb.mono hB)).more (by have:=hb.size;omega)) (by omega) hz hzs hss
 have hDV:∀q,q < l.length→∀W,Below w.heap.size w W→Calls prog 43 #[.agg #[vD], .int .i64 q] W (DvE (l.map RM.d) q W):=fun q hq W hb=>
  Gt vD l q B W (h.below (hb.mono hB)) (by have:=hb.size;omega) ok sm hD h9 hq
 have hC:∀(k:Nat) (hk:k < l.length) (n:Int) W,Below w.heap.size w W→Calls prog 37 #[Ja l[k], .int .i64 n, .int .i64 0] W fun e w'=> e= .returned (.int .i64 (Qk l[k].d n 0))∧Below W.heap.size W w':=fun k hk n W hb=>
  Vm (l.map RM.d) l[k] n 0 B W ((h.2 _ (Fw hk)).below (hb.mono hB)) (by have:=hb.size;omega) (by
   have:=(hR k (by rw [hlm];exact hk)).good
   rwa [List.getElem_map] at this) (sm _ (Fw hk)) (by omega)
 have hKS:∀(k:Nat) (hk:k < l.length) j (hj:j < l[k].d.kids.length),∃(bk ok:Nat) (A5:Option Addr) (c5:Nat),l[k].vk= .slice A5 l[k].d.kids.length c5∧A5=some ⟨bk,ok,none⟩∧bk < B∧w.cell? ⟨bk,ok+j,none⟩=some (.int .i64 l[k].d.kids[j]):=fun k hk j hj=> by
  obtain ⟨A5,c5,e5, -, -,hc5⟩:=(h.2 _ (Fw hk)).k.one
  obtain ⟨bk,ok,e6,hbk,hc6⟩:=hc5 j hj
  exact ⟨bk,ok,A5,c5,e5,e6,hbk,hc6⟩
 obtain ⟨A,c,rfl,hc,hm, -⟩:=h.open_
 have hRC:∀(k:Nat) (hk:k < l.length),_:=fun k hk=> Zw h k hk
 obtain ⟨Ax,cx,ex, -⟩:=hx.bytes.open_
 obtain ⟨Ay,cy,ey, -⟩:=hx.its.open_
 have hvx:Qs x= .agg #[.int .i64 x.n, .slice Ax x.b.length cx, .slice Ay x.items.length cy]:=by unfold Qs;rw [ex,ey]
 rw [hvx] at hF hCX hRP ⊢
 obtain ⟨FY,FK,FB,hf⟩:∃a b c,Ya (l.map RM.d) x.d (Qt Zf s) (Yr Zf s)=(a,b,c):=⟨_,_,_,rfl⟩
 rw [Ij hf] at hF
 obtain ⟨PB,hpb⟩:∃b,(FB && Xj (l.map RM.d) FK 8)=b:=⟨_,rfl⟩
 rw [hpb] at hF
 have hP1:PB=true→∃(k:Nat) (hk:k < l.length),FK=k∧l[k].d.kind=8∧FB=true∧Zn (l.map RM.d) k FY=true:=fun e=> by
  rw [e,Bool.and_eq_true] at hpb
  rw [hpb.1] at hf
  obtain ⟨hv,hw⟩:=Xn hf
  simp only [Bool.and_eq_true] at hv
  have h3:=hv.2.2
  obtain ⟨q,e0,hq⟩:=Jy h3
  rw [show ((l.map RM.d).length:Int) - 1=((l.map RM.d).length - 1:Nat) by omega] at h3
  have hvy:=Xl h3 hw
  obtain ⟨k,rfl,hk⟩:=Jy hvy
  have hki:=hpb.2
  rw [Xr hk,decide_eq_true_eq,List.getElem_map] at hki
  exact ⟨k,by rwa [hlm] at hk,rfl,hki,hpb.1,hvy⟩
 have hP0:PB=false→∀chg:Int→Zv→Option Zv,(∀y,Xj (l.map RM.d) FK 8=false→chg FK y=none)→Qv (l.map RM.d) x.d (Qt Zf s) (Yr Zf s) chg=(x.d,false):=fun e chg hn=> by
  rw [e] at hpb
  cases FB with
  |false=> exact Ot hf _
  |true=> exact Xz (Xn hf).2 (hn _ (by rw [Bool.true_and] at hpb;exact hpb))
 have HF:=Fs hF
 have HCX:=Fs hCX
 have HRP:=Fs hRP
 have HDV:=Fs hDV
 have HC:=Fs hC
 have HRC:=Fs hRC
 have HKS:=Fs hKS
 have HRR:=Fs hR
 have HFV:=Fs (Ft hf (Ft hP0 hP1))
 have HXS:=Fs hs
 unfold maxLen at hm
 clear hF hCX hRP hDV hC hRC hKS hR hlm hf hpb hP0 hP1 h hx ok sm hs ex ey hvx hc hss hD
 obtain ⟨W0,hW0⟩:∃W0,W0=((w.alloc (.cells #[.slice A l.length c] 26)).alloc (.cells #[.int .i64 x.n, .slice Ax x.b.length cx, .slice Ay x.items.length cy] 29)).alloc (.cells #[.int .i64 0, .slice none 0 0, .slice none 0 0] 29):=⟨_,rfl⟩
 have hb0:Below w.heap.size w W0:=by rw [hW0];exact (((Fv w.heap.size w).alloc (Fu _) _).alloc (by simp) _).alloc (by simp;omega) _
 have KD:=Fs (show Zo W0 w.heap.size 26 #[.slice A l.length c] by rw [hW0];exact ((Zo.new w _ _).alloc _).alloc _)
 have KX:=Fs (show Zo W0 (w.heap.size+1) 29 #[.int .i64 x.n, .slice Ax x.b.length cx, .slice Ay x.items.length cy] by rw [hW0];have:=(Zo.new (w.alloc (.cells #[.slice A l.length c] 26)) 29 #[.int .i64 x.n, .slice Ax x.b.length cx, .slice Ay x.items.length cy]).alloc (.cells #[.int .i64 0, .slice none 0 0, .slice none 0 0] 29);simpa using this)
 have KR:=Fs (show Zo W0 (w.heap.size+1+1) 29 #[.int .i64 0, .slice none 0 0, .slice none 0 0] by rw [hW0];have:=Zo.new ((w.alloc (.cells #[.slice A l.length c] 26)).alloc (.cells #[.int .i64 x.n, .slice Ax x.b.length cx, .slice Ay x.items.length cy] 29)) 29 #[.int .i64 0, .slice none 0 0, .slice none 0 0];simpa using this)
 have s0:W0.cell? ⟨w.heap.size,0,none⟩=some (.slice A l.length c):=KD.out.cell 0 rfl
 obtain ⟨⟨v0,v1,v2⟩, -⟩:=KX.out.c3
 have hzz:w.heap.size+1+1 < W0.heap.size:=KR.out.lt
 have HB0:=Fs hb0
 clear hb0
 go_enter func18,ntmps18
 go_upto_region 1 with fail
 rw [←hW0]
 clear hW0
 go_wp2_with fail
 refine (HF.out _ HB0.out).mono ?_
 rintro e w1 ⟨v,rfl,⟨y,hyd,rfl,ho⟩,bel⟩
 dsimp only at hyd ho ⊢
 obtain ⟨Ap,cp,e1, -⟩:=ho.own.rd.bytes.open_
 obtain ⟨Aq,cq,e2, -⟩:=ho.own.rd.its.open_
 have hvy:Qs y= .agg #[.int .i64 y.n, .slice Ap y.b.length cp, .slice Aq y.items.length cq]:=by unfold Qs;rw [e1,e2]
 rw [hvy]
 obtain ⟨w2,hw2⟩:∃V,V=w1.alloc (.cells #[.int .i64 y.n, .slice Ap y.b.length cp, .slice Aq y.items.length cq] 29):=⟨_,rfl⟩
 have h12:Below w1.heap.size w1 w2:=by rw [hw2];exact (Fv _ _).alloc (Fu _) _
 have KP:=Fs (show Zo w2 w1.heap.size 29 #[.int .i64 y.n, .slice Ap y.b.length cp, .slice Aq y.items.length cq] by rw [hw2];exact Zo.new w1 _ _)
 have b02:=bel.trans (h12.mono bel.size)
 have HB2:=Fs (Zb b02 HB0.out)
 have hzw1:W0.heap.size≤w1.heap.size:=bel.size
 have hzp:w1.heap.size < w2.heap.size:=KP.out.lt
 have KD:=Fs (KD.out.below b02)
 have KX:=Fs (KX.out.below b02)
 have KR:=Fs (KR.out.below b02)
 have HY:=Fs (Ft hyd (Ft (ho.keep (Xq.of_below h12 0 0) (.inr (Eb _))) (Ft e1 e2)))
 clear hyd ho e1 e2 hvy bel h12 b02 s0 v0 v1 v2 HF
 go_upto_region 2 with fail
 rw [←hw2]
 clear hw2
 have s0:w2.cell? ⟨w.heap.size,0,none⟩=some (.slice A l.length c):=KD.out.cell 0 rfl
 obtain ⟨⟨v0,v1,v2⟩, -⟩:=KX.out.c3
 obtain ⟨⟨p0,p1,p2⟩,pf0,pf1,pf2⟩:=KP.out.c3
 cases PB with
 |false=>
  have HX:=Fs (HFV.out.2.1 rfl (Uf (l.map RM.d) pr) fun y hn=> by unfold Uf;rw [hn];rfl)
  go_wp2_with fail
  refine (HCX.out _ (HB2.out)).mono ?_
  rintro e wc ⟨vc,rfl,hoc,belc⟩
  have HB:=Fs (Zb belc (HB2.out))
  have KR:=Fs (KR.out.below belc)
  obtain ⟨Ac,cc,Ac',cc',rfl⟩:=hoc.agg
  have HO:=Fs hoc
  have HZ:=Fs belc.size
  clear hoc belc
  obtain ⟨⟨t0,t1,t2⟩,f0,f1,f2⟩:=KR.out.c3
  go_wp2
  rw [HX.out]
  refine bodyPost_ret (v:= .tuple #[.agg #[.int .i64 x.d.n, .slice Ac x.d.b.length cc, .slice Ac' x.d.items.length cc'], .bool false]) (by simp [results,results18,go_sem,t0,t1,t2]) rfl ⟨_,rfl,?_,Qm HB.out (by omega) _ _ _⟩
  have hz:=HZ.out
  refine (HO.out.set3 (g:=w.heap.size+1+1) (.inr (by omega)) _ _ _).wide (by omega) (by simp)
 |true=>
  obtain ⟨k,hk,rfl,hkd,hFB,hvy⟩:=HFV.out.2.2 rfl
  have hlm:(l.map RM.d).length=l.length:=List.length_map ..
  have hkD:k < (l.map RM.d).length:=by rw [hlm];exact hk
  have hge:(l.map RM.d)[k]=l[k].d:=List.getElem_map ..
  have hik:Xj (l.map RM.d) k 8=true:=by rw [Xr hkD,hge];simp [hkd]
  have hf:=HFV.out.1
  rw [hFB] at hf
  have hft:=Xn hf
  have hFs:FY.size≤2097152:=Nat.le_trans (Km hft.2) HXS.out
  have hoc:Uf (l.map RM.d) pr k FY=some (Ts (l.map RM.d) pr k FY):=by unfold Uf;rw [if_pos hik]
  have hPs:=(Fg HRR.out (by rw [hlm];exact h9) hkD hvy hoc).2.2.2.2
  have HX:=Fs (edit_rep (fun k hk y P hv hc=> (Fg HRR.out (by rw [hlm];exact h9) hk hv hc).2.1) hkD hf hoc)
  have HPS:=Fs (show (Ts (l.map RM.d) pr k FY).size≤4194304 by omega)
  obtain ⟨hyd,hyo,e1,e2⟩:=HY.out
  have hyl:FY.items.length=y.items.length:=by rw [←hyd,VM.items_d,List.length_map]
  have hyn:FY.n=y.n:=by rw [←hyd,VM.n_d]
  have hyb:FY.b=y.b:=by rw [←hyd,VM.b_d]
  obtain ⟨h2a, -⟩:=val8 (HRR.out k hkD) (by rw [hge];exact hkd)
  have h2:0 < l[k].d.kids.length:=by rwa [hge] at h2a
  obtain ⟨q,hq,hqk⟩:=(HRR.out k hkD).kidN (j:=0) (by rw [hge];exact h2)
  simp only [hge] at hq
  have hO0:Ts (l.map RM.d) false k FY= .mk y.n y.b []:=by unfold Ts;rw [hyn,hyb];rfl
  have hO1:y.items.length=0→Ts (l.map RM.d) true k FY= .mk y.n y.b [Jw (l.map RM.d) q]:=fun e=> by
   unfold Ts
   rw [if_pos rfl,if_pos (by rw [hyl];exact e),Mh hkD,hge,Jb _ _ h2,hq,Int.toNat_natCast,hyn,hyb]
  have hO2:y.items.length≠0→Ts (l.map RM.d) true k FY=y.d:=fun e=> by unfold Ts;rw [if_pos rfl,if_neg (by rw [hyl];exact e),hyd]
  have HO:=Fs (Ft hO0 (Ft hO1 hO2))
  obtain ⟨bk,ok,A5,c5,e5,e6,hbk,hkc⟩:=HKS.out k hk 0 h2
  rw [hq,Nat.add_zero] at hkc
  have hk1:=Ec HB2.out hkc
  have hRC:=HRC.out k hk
  obtain ⟨b,off,A1,c1,A2,c2,A3,c3,A4,c4,rfl,hbB, -, -, -,e4, -, -, -, -,hcell⟩:=hRC
  rw [e4] at e5
  simp only [Value.slice.injEq] at e5
  obtain ⟨rfl, -,rfl⟩:=e5
  subst e6
  obtain ⟨-, -, -, -, -, -, -,x7⟩:=hcell w2 (Zu HB2.out hB)
  have HDQ:=Fs (HDV.out q (by omega))
  have hbkw:bk < w.heap.size:=by omega
  have hji:(0:Int) < (l[k].d.kids.length:Int):=by omega
  have hnl:l.length≤9223372036854775807:=by omega
  have hyrd:y.rd w2 w2.heap.size:=hyo.own.rd
  have HYR:=Fs (Ft hyo (Ft hyrd (Ft e1 e2)))
  clear h2a hyd hyo e1 e2 hyl hyn hyb hO0 hO1 hO2 hik hge hkD hlm hf hft hFs hoc hPs hcell e4 hkc hq hvy hkd hFB HY HFV HRC HKS HC hyrd HCX
  go_upto_block 0 with fail
  go_cut [] (fun wx=> ∃z:VM,z.d=Ts (l.map RM.d) pr k FY∧Zo wx w1.heap.size 29 #[.int .i64 z.n,z.vb,z.vi]∧z.rd wx wx.heap.size∧Qx w1.heap.size w2 wx)
  case first=>
   cases pr with
   |false=>
    have hrow:Below w2.heap.size w2 (w2.alloc (.cells #[] 29)):=(Fv _ _).alloc (Fu _) _
    have HE:=Fs (show ∃z:VM,z.d= .mk y.n y.b []∧z.n=y.n∧z.vb= .slice Ap y.b.length cp∧z.vi= .slice (some ⟨w2.heap.size,0,none⟩) 0 0∧∀W B',(y.rd W B'→z.rd W B') from ⟨.mk y.n y.b y.vb (.slice (some ⟨w2.heap.size,0,none⟩) 0 0) [],by rw [VM.d_mk];rfl,rfl,HYR.out.2.2.1,rfl,fun W B' hr=> .mk hr.bytes ⟨rfl,_,_,rfl,Fu _,Eb _,fun h=> absurd h (Nat.lt_irrefl _)⟩ (by simp)⟩)
    clear hrow s0 v0 v1 v2 x7 hk1
    go_wp2
    go_meet
    obtain ⟨z,hz1,hz2,hz3,hz4,hz5⟩:=HE.out
    have hyW:y.own W0.heap.size ((w2.setCell ⟨w1.heap.size,2,none⟩ (.slice (some ⟨w2.heap.size,0,none⟩) 0 0)).alloc (.cells #[] 29)):=HYR.out.1.own.keep fun g hg=> by
     have:=HYR.out.1.rng g hg
     exact (Below.heap_alloc _ _ g (by simp [World.setCell];omega)).trans (Below.heap_setCell _ _ _ g (show g≠w1.heap.size by omega))
    refine ⟨z,by rw [hz1];exact HO.out.1.symm,?_,hz5 _ _ hyW.rd,Qx.trans (Jj w2 w1.heap.size 2 _) (Qx.of_below ((Fv _ _).alloc (Fu _) _))⟩
    rw [hz2,hz3,hz4]
    have:=(KP.out.set 2 (.slice (some ⟨w2.heap.size,0,none⟩) 0 0)).alloc (.cells #[] 29)
    simpa using this
   |true=>
    by_cases hy0:y.items.length=0
    ·rw [hy0] at p2
     have bq:=(Fv w2.heap.size w2).drew
     go_wp2_with fail
     refine wp_region_held_drew (S:=(fun w9=> w9.cell? ⟨w.heap.size,0,none⟩=some (.slice (some ⟨b,off,none⟩) l.length c)∧w9.cell? ⟨b,off+k*8+7,none⟩=some (.slice (some ⟨bk,ok,none⟩) l[k].d.kids.length c4)∧w9.cell? ⟨bk,ok,none⟩=some (.int .i64 q))) (by kernel_rfl) ?_ (fun hHeld=> ?_)
     ·(try dsimp only);exact ⟨s0,x7,hk1⟩
     refine Za 0 (some 35) hHeld _ ?_;try go_frame
     refine Za 1 (some 36) hHeld _ ?_;try go_frame
     refine Za 2 (some 37) hHeld _ ?_;try go_frame
     refine Za 3 (some 38) hHeld _ ?_;try go_frame
     refine Za 4 (some 39) hHeld _ ?_;try go_frame
     refine Za 5 (some 40) hHeld _ ?_;try go_frame
     refine Za 6 (some 41) hHeld _ ?_;try go_frame
     refine Za 7 (some 42) hHeld _ ?_;try go_frame
     refine Za 8 (some 43) hHeld _ ?_;try go_frame
     refine Zh 9 (fun K hK=> ?_)
     go_simp
     refine (HDQ.out _ (Zb bq HB2.out)).mono ?_;rintro e5 w5 ⟨xx,rfl,hxo,hxs,bel⟩;obtain ⟨A5,c5,e5, -⟩:=hxo.own.rd.bytes.open_;obtain ⟨A6,c6,e6, -⟩:=hxo.own.rd.its.open_;unfold Qs;rw [e5,e6];have hz5:=bq.size;have bq:=Zb bel bq;have hz6:=bq.size;have HXO:=Fs (Ft hxo (Ft hxs (Ft e5 e6)));clear hxo hxs e5 e6
     (try go_wp2_with fail)
     refine hK.out _ _ ?_ (fun hHeld=> ?_)
     ·(try dsimp only);first|exact ⟨Ec bq s0,Ec bq x7,Ec bq hk1⟩|exact ⟨(World.cell?_setCell_other _ _ _ _ (by intro e;simp only [Addr.mk.injEq] at e;omega)).trans (Ec bq s0),(World.cell?_setCell_other _ _ _ _ (by intro e;simp only [Addr.mk.injEq] at e;omega)).trans (Ec bq x7),(World.cell?_setCell_other _ _ _ _ (by intro e;simp only [Addr.mk.injEq] at e;omega)).trans (Ec bq hk1)⟩
     clear hK K
     try go_frame
     refine Zh 10 (fun K hK=> ?_)
     (try go_simp)
     obtain ⟨X3,hX3⟩:∃V,V=w5.alloc (.cells #[.int .i64 xx.n, .slice A5 xx.b.length c5, .slice A6 xx.items.length c6] 29):=⟨_,rfl⟩;rw [←hX3];have hbl:Below w5.heap.size w5 X3:=(by rw [hX3];exact (Fv _ _).alloc (Fu _) _);have hbk3:Zo X3 w5.heap.size 29 (Ze xx).toArray:=(by rw [hX3];unfold Ze;rw [HXO.out.2.2.1,HXO.out.2.2.2];exact Zo.new w5 _ _);have hx3:=HXO.out.1.keep (Xq.of_below hbl 0 0) (.inr (Eb _));have HG:=Fs (Ft hbk3 hx3);have bq:=Zb hbl bq;have KP3:=KP.out.below bq;obtain ⟨⟨z0,z1,z2⟩,zf0,zf1,zf2⟩:=KP3.c3;clear hX3 hbl hbk3 hx3
     refine hK.out _ _ ?_ (fun hHeld=> ?_)
     ·(try dsimp only);first|exact ⟨Ec bq s0,Ec bq x7,Ec bq hk1⟩|exact ⟨(World.cell?_setCell_other _ _ _ _ (by intro e;simp only [Addr.mk.injEq] at e;omega)).trans (Ec bq s0),(World.cell?_setCell_other _ _ _ _ (by intro e;simp only [Addr.mk.injEq] at e;omega)).trans (Ec bq x7),(World.cell?_setCell_other _ _ _ _ (by intro e;simp only [Addr.mk.injEq] at e;omega)).trans (Ec bq hk1)⟩
     clear hK K
     try go_frame
     refine Za 11 (some 46) hHeld _ ?_;try go_frame
     refine Zh 12 (fun K hK=> ?_)
     (try go_simp)
     go_simp
     refine hK.out _ _ ?_ (fun hHeld=> ?_)
     ·(try dsimp only);first|exact ⟨Ec bq s0,Ec bq x7,Ec bq hk1⟩|exact ⟨(World.cell?_setCell_other _ _ _ _ (by intro e;simp only [Addr.mk.injEq] at e;omega)).trans (Ec bq s0),(World.cell?_setCell_other _ _ _ _ (by intro e;simp only [Addr.mk.injEq] at e;omega)).trans (Ec bq x7),(World.cell?_setCell_other _ _ _ _ (by intro e;simp only [Addr.mk.injEq] at e;omega)).trans (Ec bq hk1)⟩
     clear hK K
     try go_frame
     refine wpAnyH_done (by kernel_rfl) ?_ _
     obtain ⟨Wf,hWf⟩:∃V,V=X3.setCell ⟨w1.heap.size,2,none⟩ (.slice (some ⟨w5.heap.size,0,none⟩) 1 1):=⟨_,rfl⟩
     rw [←hWf]
     have hset:∀g,g≠w1.heap.size→Wf.heap[g]?=X3.heap[g]?:=fun g hg=> by rw [hWf];exact Below.heap_setCell _ _ _ g hg
     have hsz:Wf.heap.size=X3.heap.size:=by rw [hWf];simp [World.setCell]
     have hb5:=HG.out.1.lt
     obtain ⟨z,hz⟩:∃z,z=VM.mk y.n y.b y.vb (.slice (some ⟨w5.heap.size,0,none⟩) 1 1) [xx]:=⟨_,rfl⟩
     have HF:=Fs (show z.d=Ts (l.map RM.d) true k FY∧Zo Wf w1.heap.size 29 #[.int .i64 z.n,z.vb,z.vi]∧z.rd Wf Wf.heap.size∧Qx w1.heap.size w2 Wf from by
      refine ⟨by rw [hz,VM.d_mk,List.map_cons,List.map_nil,HXO.out.2.1,HO.out.2.1 hy0],?_,?_,?_⟩
      ·rw [hz]
       simp only [VM.n_mk,VM.vb_mk,VM.vi_mk]
       rw [HYR.out.2.2.1,hWf]
       simpa using KP3.set 2 (.slice (some ⟨w5.heap.size,0,none⟩) 1 1)
      ·rw [hz]
       have hyW:y.own W0.heap.size Wf:=HYR.out.1.own.keep fun g hg=> by
        have:=HYR.out.1.rng g hg
        exact (hset g (by omega)).trans (bq.block g (by omega))
       have hxW:xx.own w2.drew.heap.size Wf:=HG.out.2.own.keep fun g hg=> hset g (by have:=(HG.out.2.rng g hg).1;have e:w2.drew.heap.size=w2.heap.size:=rfl;omega)
       exact .mk hyW.rd.bytes (Tj (xs:=Ze xx) ((hset _ (by omega)).trans HG.out.1) rfl (by omega)) (fun y' hy'=> by simp only [List.mem_singleton] at hy';subst hy';exact hxW.rd)
      ·rw [hWf]
       exact (Qx.of_below bq).trans (Jj X3 w1.heap.size 2 _))
     clear hset hWf bq KP3 z0 z1 z2 zf0 zf1 zf2 s0 x7 hk1 v0 v1 v2 p0 p1 p2 pf0 pf1 pf2 hHeld
     go_wp2_with fail
     go_meet
     exact ⟨z,HF.out⟩
    ·have hyi:((y.items.length:Int)==0)=false:=by rw [beq_eq_false_iff_ne];omega
     have HF:=Fs (show y.d=Ts (l.map RM.d) true k FY∧Zo w2 w1.heap.size 29 #[.int .i64 y.n,y.vb,y.vi]∧y.rd w2 w2.heap.size from ⟨(HO.out.2.2 hy0).symm,by rw [HYR.out.2.2.1,HYR.out.2.2.2];exact KP.out,HYR.out.2.1⟩)
     clear hy0 s0 v0 v1 v2 x7 hk1
     go_wp2
     go_meet
     exact ⟨y,HF.out.1,HF.out.2.1,HF.out.2.2,Qx.of_below (Fv _ _)⟩
  obtain ⟨z,hzd,hzb,hzr,hgo⟩:=hcut
  obtain ⟨w3,hw3⟩:∃V,V=wc:=⟨_,rfl⟩
  rw [←hw3] at hzb hzr hgo ⊢
  clear hw3
  have HB3:=Fs (hgo.below HB2.out (by have:=HB2.out.size;omega) (by omega))
  have KD:=Fs (KD.out.go hgo (by omega))
  have KX:=Fs (KX.out.go hgo (by omega))
  have KR:=Fs (KR.out.go hgo (by omega))
  obtain ⟨A5,c5,e5, -⟩:=hzr.bytes.open_
  obtain ⟨A6,c6,e6, -⟩:=hzr.its.open_
  have hRz:=HRP.out z w3 HB3.out hzr (by rw [hzd];exact HPS.out)
  rw [hzd,HX.out] at hRz
  unfold Qs at hRz
  rw [e5,e6] at hRz
  rw [e5,e6] at hzb
  have HRZ:=Fs hRz
  have hz23:=hgo.size
  clear hRz hzd hzr hgo e5 e6 s0 v0 v1 v2 p0 p1 p2 pf0 pf1 pf2 x7 hk1
  generalize Qv (l.map RM.d) x.d (Qt Zf s) (Yr Zf s) (Uf (l.map RM.d) pr)=ff at*
  have s0:w3.cell? ⟨w.heap.size,0,none⟩=some (.slice (some ⟨b,off,none⟩) l.length c):=KD.out.cell 0 rfl
  obtain ⟨⟨v0,v1,v2⟩, -⟩:=KX.out.c3
  obtain ⟨⟨p0,p1,p2⟩, -⟩:=hzb.c3
  go_wp2_with fail
  refine HRZ.out.mono ?_
  rintro e6 w6 ⟨v6,rfl,ho6,bel⟩
  obtain ⟨A7,c7,A8,c8,rfl⟩:=ho6.agg
  have HBF:=Fs (Zb bel HB3.out)
  have HO6:=Fs (Ft ho6 bel.size)
  have KR6:=KR.out.below bel
  clear ho6 bel s0 v0 v1 v2 p0 p1 p2 hzb
  obtain ⟨⟨r0,r1,r2⟩,g0,g1,g2⟩:=KR6.c3
  obtain ⟨⟨t0,t1,t2⟩, -⟩:=(KR6.put3 (.int .i64 ff.1.n) (.slice A7 ff.1.b.length c7) (.slice A8 ff.1.items.length c8)).c3
  clear KR6
  go_wp2
  refine bodyPost_ret (v:= .tuple #[.agg #[.int .i64 ff.1.n, .slice A7 ff.1.b.length c7, .slice A8 ff.1.items.length c8], .bool ff.2]) (by simp [results,results18,go_sem,t0,t1,t2]) rfl ⟨_,rfl,?_,Qm HBF.out (by omega) _ _ _⟩
  obtain ⟨ho6,h6⟩:=HO6.out
  refine (ho6.set3 (g:=w.heap.size+1+1) (.inr (by omega)) _ _ _).wide (by omega) (by simp)
end Go.Proofs.YteldgdelmaeokaaGreatDoor
