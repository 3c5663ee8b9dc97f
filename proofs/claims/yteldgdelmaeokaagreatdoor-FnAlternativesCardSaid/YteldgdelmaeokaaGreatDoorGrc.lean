/- The walk of spec.ReplacePart. Conditions: the description reads as its rules, which are small; the value and the part read as their data and are small; the text has at most 2^21 bytes. -/
import Derived.Test.YteldgdelmaeokaaGreatDoorGra
import Derived.WalkSpells
import Derived.WalkLawsBesides
import Derived.Deep.RegionHeld3
set_option linter.unusedSimpArgs false
set_option linter.unusedVariables false
set_option maxHeartbeats 4000000
set_option maxRecDepth 100000
namespace Go.Proofs.YteldgdelmaeokaaGreatDoor
open Go.Proofs.Tryz Go.RowKit
theorem Lr (vD:Value) (l:List RM) (x p:VM) (s:ByteArray) (B:Nat) (w:World) (h:Qz w B vD l) (hB:B≤w.heap.size) (ok:∀r∈l,r.d.ok) (sm:∀r∈l,r.d.small 1048576) (hx:x.rd w B) (hs:x.d.size≤4194304) (hp:p.rd w B) (hps:p.d.size≤4194304) (hss:s.size≤2097152):
  Calls prog 32 #[.agg #[vD],Qs x, .string s,Qs p] w (Uw (Ue (Qv (l.map RM.d) x.d (Qt Zf s) (Yr Zf s) (Kh (l.map RM.d) p.d)).1) (.bool (Qv (l.map RM.d) x.d (Qt Zf s) (Yr Zf s) (Kh (l.map RM.d) p.d)).2) w):=by
 have hlm:(l.map RM.d).length=l.length:=List.length_map ..
 have hF:∀W,Below w.heap.size w W→Calls prog 10 #[.agg #[vD],Qs x, .string s] W (Mu (Ya (l.map RM.d) x.d (Qt Zf s) (Yr Zf s)) W):=fun W hb=>
  Xw vD l x s B W (h.below (hb.mono hB)) (by have:=hb.size;omega) ok sm (hx.bel (hb.mono hB)) hs hss
 have hR:∀W,Below w.heap.size w W→Calls prog 34 #[.agg #[vD]] W fun e w'=> e= .returned (.int .i64 ((l.length:Int) - 1))∧Below W.heap.size W w':=fun W hb=> Oz vD l B W (h.below (hb.mono hB))
 have hSP:∀W,Below w.heap.size w W→Calls prog 35 #[.string s] W (RdB (Yr Zf s) (Qt Zf s) W):=fun W hb=> Rb s W hss
 have hV:∀(k:Int) W,Below w.heap.size w W→Calls prog 15 #[.agg #[vD], .int .i64 k,Qs p] W fun e w'=> e= .returned (.bool (Qd (l.map RM.d) k && Zn (l.map RM.d) k p.d))∧Below W.heap.size W w':=fun k W hb=>
  Vl vD l _ p B W (h.below (hb.mono hB)) (by have:=hb.size;omega) ok sm (hp.bel (hb.mono hB)) hps
 have hCP:∀W,Below w.heap.size w W→Calls prog 31 #[Qs x] W (Lm (Ue x.d) W):=fun W hb=>
  Xx x B W (hx.bel (hb.mono hB)) (by have:=hb.size;omega) hs
 have hPU:Yf (l.map RM.d)=true→0 < l.length→Zn (l.map RM.d) (l.length - 1:Nat) x.d=true→Jk (l.map RM.d) (l.length - 1:Nat) x.d (Yr Zf s)≠none→∀W vS,Below w.heap.size w W→Va W W.heap.size vS (Yr Zf s)→
   Calls prog 62 #[.agg #[vD], .int .i64 (l.length - 1:Nat),Qs x,vS,Qs p] W (Lm (Ue (Ta (l.map RM.d) p.d (l.length - 1:Nat) x.d (Yr Zf s))) W):=fun hv hl hvx hw W vS hb hS=>
  l22Put_any _ vD l (l.length - 1) x p vS W.heap.size W ((h.below (hb.mono hB)).more (by have:=hb.size;omega)) (Fu _) ok sm hv (by omega) ((hx.bel (hb.mono hB)).more (by have:=hb.size;omega)) hs ((hp.bel (hb.mono hB)).more (by have:=hb.size;omega)) hps hS hvx hw
 obtain ⟨A,c,rfl,hc,hm, -⟩:=h.open_
 obtain ⟨Ax,cx,ex, -⟩:=hx.bytes.open_
 obtain ⟨Ay,cy,ey, -⟩:=hx.its.open_
 obtain ⟨Ap,cp,ep, -⟩:=hp.bytes.open_
 obtain ⟨Aq,cq,eq, -⟩:=hp.its.open_
 unfold Qs at hF hV hCP hPU ⊢
 rw [ex,ey] at hF hCP hPU ⊢
 rw [ep,eq] at hV hPU ⊢
 obtain ⟨FY,FK,FB,hf⟩:∃a b c,Ya (l.map RM.d) x.d (Qt Zf s) (Yr Zf s)=(a,b,c):=⟨_,_,_,rfl⟩
 rw [hf] at hF
 have HF:=Fs hF
 have HR:=Fs hR
 have HSP:=Fs hSP
 have HV:=Fs (hV FK)
 have HCP:=Fs hCP
 have HPU:=Fs hPU
 have HLM:=Fs hlm
 have HFV:=Fs hf
 have hb2:∀b,Qt Zf s=b→True:=fun _ _=> trivial
 clear hF hR hSP hV hCP hPU hlm hf h hx hp ok sm hs hps ex ey ep eq hc hss hb2
 unfold maxLen at hm
 generalize p.items.length=np at*
 obtain ⟨W0,hW0⟩:∃W0,W0=((((w.alloc (.cells #[.slice A l.length c] 26)).alloc (.cells #[.int .i64 x.n, .slice Ax x.b.length cx, .slice Ay x.items.length cy] 29)).alloc (.cells #[.int .i64 p.n, .slice Ap p.b.length cp, .slice Aq np cq] 29)).alloc (.cells #[.int .i64 0, .slice none 0 0, .slice none 0 0] 29)):=⟨_,rfl⟩
 have hb0:Below w.heap.size w W0:=by rw [hW0];exact ((((Fv w.heap.size w).alloc (Fu _) _).alloc (by simp) _).alloc (by simp;omega) _).alloc (by simp;omega) _
 have hz0:W0.heap.size=w.heap.size+4:=by rw [hW0];simp
 have s0:W0.cell? ⟨w.heap.size,0,none⟩=some (.slice A l.length c):=by rw [hW0];simp [go_sem]
 have v0:W0.cell? ⟨w.heap.size+1,0,none⟩=some (.int .i64 x.n):=by rw [hW0];simp [go_sem]
 have v1:W0.cell? ⟨w.heap.size+1,1,none⟩=some (.slice Ax x.b.length cx):=by rw [hW0];simp [go_sem]
 have v2:W0.cell? ⟨w.heap.size+1,2,none⟩=some (.slice Ay x.items.length cy):=by rw [hW0];simp [go_sem]
 have p0:W0.cell? ⟨w.heap.size+1+1,0,none⟩=some (.int .i64 p.n):=by rw [hW0];simp [go_sem]
 have p1:W0.cell? ⟨w.heap.size+1+1,1,none⟩=some (.slice Ap p.b.length cp):=by rw [hW0];simp [go_sem]
 have p2:W0.cell? ⟨w.heap.size+1+1,2,none⟩=some (.slice Aq np cq):=by rw [hW0];simp [go_sem]
 have HR3:B3 W0 (w.heap.size+1+1+1) (.int .i64 0) (.slice none 0 0) (.slice none 0 0):=by
  rw [hW0]
  have:=B3.new (((w.alloc (.cells #[.slice A l.length c] 26)).alloc (.cells #[.int .i64 x.n, .slice Ax x.b.length cx, .slice Ay x.items.length cy] 29)).alloc (.cells #[.int .i64 p.n, .slice Ap p.b.length cp, .slice Aq np cq] 29)) (.int .i64 0) (.slice none 0 0) (.slice none 0 0) 29
  simpa using this
 go_enter func32,ntmps32
 go_upto_region 1 with fail
 rw [←hW0]
 clear hW0
 go_wp2_with fail
 refine (HF.out _ hb0).mono ?_
 rintro e w1 ⟨v,rfl,ho,bel⟩
 obtain ⟨A1,c1,A2,c2,rfl⟩:=ho.agg
 obtain ⟨W2,hW2⟩:∃W2,W2=w1.alloc (.cells #[.int .i64 FY.n, .slice A1 FY.b.length c1, .slice A2 FY.items.length c2] 29):=⟨_,rfl⟩
 have h12:Below w1.heap.size w1 W2:=by rw [hW2];exact (Fv _ _).alloc (Fu _) _
 have b02:=bel.trans (h12.mono bel.size)
 have bw:=Zb b02 hb0
 have hz2:w.heap.size+4≤W2.heap.size:=by have:=b02.size;omega
 have s2:=Ec b02 s0
 have q0:=Ec b02 v0
 have q1:=Ec b02 v1
 have q2:=Ec b02 v2
 have u0:=Ec b02 p0
 have u1:=Ec b02 p1
 have u2:=Ec b02 p2
 have RB:=HR3.later b02
 clear ho bel h12 b02 s0 v0 v1 v2 p0 p1 p2 HR3 hb0
 go_upto_region 2 with fail
 rw [←hW2]
 clear hW2
 cases FB
 ·have HX:=Fs (Ot HFV.out (Kh (l.map RM.d) p.d))
  clear HF HR HSP HV HPU HLM HFV
  generalize x.d=xd at*
  generalize x.items.length=nx at*
  go_wp2_with fail
  refine (HCP.out _ bw).mono ?_
  rintro e wc ⟨vc,rfl,hoc,belc⟩
  have HB:=Fs (Zb belc bw)
  have RB:=RB.later belc
  obtain ⟨Ac,cc,Ac',cc',rfl⟩:=hoc.agg
  have HO:=Fs hoc
  have HZ:=Fs belc.size
  clear hoc belc bw
  obtain ⟨lt,t0,t1,t2,f0,f1,f2⟩:=RB
  go_wp2
  rw [HX.out]
  refine bodyPost_ret (v:= .tuple #[.agg #[.int .i64 xd.n, .slice Ac xd.b.length cc, .slice Ac' xd.items.length cc'], .bool false]) (by simp [results,results32,go_sem,t0,t1,t2]) rfl ⟨_,rfl,?_,Qm HB.out (by omega) _ _ _⟩
  have hz:=HZ.out
  refine (HO.out.set3 (g:=w.heap.size+1+1+1) (.inr (by omega)) _ _ _).wide (by omega) (by simp)
 ·have hft:=Xn HFV.out
  cases hbv:(Qd (l.map RM.d) FK && Zn (l.map RM.d) FK p.d)
  ·rw [hbv] at HV
   have HX:=Fs (Xz (ok:=Qt Zf s) hft.2 (repC_no hbv FY))
   clear HF HR HSP HPU HLM HFV hft hbv
   go_wp2_with fail
   refine (HV.out _ bw).mono ?_
   rintro e w3 ⟨rfl,bel⟩
   have bw:=Zb bel bw
   have q0:=Ec bel q0
   have q1:=Ec bel q1
   have q2:=Ec bel q2
   have RB:=RB.later bel
   have hz3:=bel.size
   clear bel u0 u1 u2 s2
   generalize x.d=xd at*
   generalize x.items.length=nx at*
   go_wp2_with fail
   refine (HCP.out _ bw).mono ?_
   rintro e wc ⟨vc,rfl,hoc,belc⟩
   have HB:=Fs (Zb belc bw)
   have RB:=RB.later belc
   obtain ⟨Ac,cc,Ac',cc',rfl⟩:=hoc.agg
   have HO:=Fs hoc
   have HZ:=Fs belc.size
   clear hoc belc bw
   obtain ⟨lt,t0,t1,t2,f0,f1,f2⟩:=RB
   go_wp2
   rw [HX.out]
   refine bodyPost_ret (v:= .tuple #[.agg #[.int .i64 xd.n, .slice Ac xd.b.length cc, .slice Ac' xd.items.length cc'], .bool false]) (by simp [results,results32,go_sem,t0,t1,t2]) rfl ⟨_,rfl,?_,Qm HB.out (by omega) _ _ _⟩
   have hz:=HZ.out
   refine (HO.out.set3 (g:=w.heap.size+1+1+1) (.inr (by omega)) _ _ _).wide (by omega) (by simp)
  ·rw [hbv] at HV
   have HX:=Fs (Un (S:=Yr Zf s) hft.1 hft.2 (repC_yes hbv FY))
   have hkn:Qt Zf s=true∧Qd (l.map RM.d) ((l.length:Int) - 1)=true∧Zn (l.map RM.d) ((l.length:Int) - 1) x.d=true:=by have:=hft.1;rw [HLM.out] at this;simpa using this
   have hl:0 < l.length:=by have:=Vt hkn.2.1;omega
   have HPW:=Fs (HPU.out (Ua hkn.2.1) hl (by rw [←Tp hl];exact hkn.2.2) (by have:=hft.2;rw [HLM.out] at this;rw [this];simp))
   have hR2:=HR.out
   rw [Tp hl] at hR2
   have HR2:=Fs hR2
   rw [HLM.out] at HX
   have hok:=hkn.1
   clear HF HR HPU HLM HFV hft hbv hkn hl hR2
   generalize Ta (l.map RM.d) p.d (l.length - 1:Nat) x.d (Yr Zf s)=PX at*
   generalize l.length - 1=root at*
   generalize Yr Zf s=S at*
   generalize x.items.length=nx at*
   go_wp2_with fail
   refine (HV.out _ bw).mono ?_
   rintro e w3 ⟨rfl,bel⟩
   have bw:=Zb bel bw
   have s2:=Ec bel s2
   have q0:=Ec bel q0
   have q1:=Ec bel q1
   have q2:=Ec bel q2
   have u0:=Ec bel u0
   have u1:=Ec bel u1
   have u2:=Ec bel u2
   have RB:=RB.later bel
   have hz3:=bel.size
   clear bel
   go_wp2_with fail
   refine (HSP.out _ bw).mono ?_
   rintro e w4 ⟨vs,rfl,hrd,bel⟩
   have bw4:=Zb bel bw
   have s2:=Ec bel s2
   have q0:=Ec bel q0
   have q1:=Ec bel q1
   have q2:=Ec bel q2
   have u0:=Ec bel u0
   have u1:=Ec bel u1
   have u2:=Ec bel u2
   have RB:=RB.later bel
   have hz4:=bel.size
   have HSL:=Fs hrd.sl
   clear bel hrd bw HSP HV
   go_wp2_with fail
   have bq:=(Fv w4.heap.size w4).drew
   obtain ⟨As,cs,rfl⟩:∃A c,vs= .slice A S.length c:=by obtain ⟨_,A,c,e, -⟩:=HSL.out;exact ⟨A,c,e⟩
   have bw:=bw4.drew
   refine wp_region_held_drew (S:=(fun w9=> w9.cell? ⟨w.heap.size,0,none⟩=some (.slice A l.length c)∧w9.cell? ⟨w.heap.size+1,0,none⟩=some (.int .i64 x.n)∧w9.cell? ⟨w.heap.size+1,1,none⟩=some (.slice Ax x.b.length cx)∧w9.cell? ⟨w.heap.size+1,2,none⟩=some (.slice Ay nx cy)∧w9.cell? ⟨w.heap.size+1+1,0,none⟩=some (.int .i64 p.n)∧w9.cell? ⟨w.heap.size+1+1,1,none⟩=some (.slice Ap p.b.length cp)∧w9.cell? ⟨w.heap.size+1+1,2,none⟩=some (.slice Aq np cq))) (by kernel_rfl) ?_ (fun hHeld=> ?_)
   ·(try dsimp only);exact ⟨s2,q0,q1,q2,u0,u1,u2⟩
   refine Za 0 (some 39) hHeld _ ?_;try go_frame
   refine Za 1 (some 40) hHeld _ ?_;try go_frame
   refine Za 3 (some 42) hHeld _ ?_;try go_frame
   refine Za 4 (some 43) hHeld _ ?_;try go_frame
   refine Za 5 (some 44) hHeld _ ?_;try go_frame
   refine Zh 2 (fun K hK=> ?_)
   go_simp
   refine (HR2.out _ bw).mono ?_;rintro e w7 ⟨rfl,bel7⟩;have bq:=Zb bel7 bq;have bw:=Zb bel7 bw
   (try go_wp2_with fail)
   refine hK.out _ _ ?_ (fun hHeld=> ?_)
   ·(try dsimp only);first|exact ⟨Ec bq s2,Ec bq q0,Ec bq q1,Ec bq q2,Ec bq u0,Ec bq u1,Ec bq u2⟩|exact ⟨(Zk _ _ _ (by omega)).trans (Ec bq s2),(Zk _ _ _ (by omega)).trans (Ec bq q0),(Zk _ _ _ (by omega)).trans (Ec bq q1),(Zk _ _ _ (by omega)).trans (Ec bq q2),(Zk _ _ _ (by omega)).trans (Ec bq u0),(Zk _ _ _ (by omega)).trans (Ec bq u1),(Zk _ _ _ (by omega)).trans (Ec bq u2)⟩
   clear hK K
   try go_frame
   refine Zh 6 (fun K hK=> ?_)
   go_simp
   have hz7:=bq.size;refine (HPW.out _ _ bw ((Sl.below HSL.out bq).more hz7)).mono ?_;rintro e w8 ⟨v8,rfl,ho8,bel8⟩;have bq:=Zb bel8 bq;have bw:=Zb bel8 bw;obtain ⟨A8,c8,A9,c9,rfl⟩:=ho8.agg;have RB:=RB.later bq
   (try go_wp2_with fail)
   refine hK.out _ _ ?_ (fun hHeld=> ?_)
   ·(try dsimp only);first|exact ⟨Ec bq s2,Ec bq q0,Ec bq q1,Ec bq q2,Ec bq u0,Ec bq u1,Ec bq u2⟩|exact ⟨(Zk _ _ _ (by omega)).trans (Ec bq s2),(Zk _ _ _ (by omega)).trans (Ec bq q0),(Zk _ _ _ (by omega)).trans (Ec bq q1),(Zk _ _ _ (by omega)).trans (Ec bq q2),(Zk _ _ _ (by omega)).trans (Ec bq u0),(Zk _ _ _ (by omega)).trans (Ec bq u1),(Zk _ _ _ (by omega)).trans (Ec bq u2)⟩
   clear hK K
   try go_frame
   refine Zh 7 (fun K hK=> ?_)
   (try go_simp)
   obtain ⟨lt,t0,t1,t2,f0,f1,f2⟩:=RB;go_simp
   refine hK.out _ _ ?_ (fun hHeld=> ?_)
   ·(try dsimp only);first|exact ⟨Ec bq s2,Ec bq q0,Ec bq q1,Ec bq q2,Ec bq u0,Ec bq u1,Ec bq u2⟩|exact ⟨(Zk _ _ _ (by omega)).trans (Ec bq s2),(Zk _ _ _ (by omega)).trans (Ec bq q0),(Zk _ _ _ (by omega)).trans (Ec bq q1),(Zk _ _ _ (by omega)).trans (Ec bq q2),(Zk _ _ _ (by omega)).trans (Ec bq u0),(Zk _ _ _ (by omega)).trans (Ec bq u1),(Zk _ _ _ (by omega)).trans (Ec bq u2)⟩
   clear hK K
   try go_frame
   refine Za 8 (some 9) hHeld _ ?_;try go_frame
   refine wpAnyH_done (by kernel_rfl) ?_ _
   go_wp2
   rw [HX.out]
   refine bodyPost_ret (v:= .tuple #[.agg #[.int .i64 PX.n, .slice A8 PX.b.length c8, .slice A9 PX.items.length c9], .bool true]) (by simp [results,results32,go_sem,t0,t1,t2]) rfl ⟨_,rfl,?_,Qm bw (by omega) _ _ _⟩
   refine (ho8.set3 (g:=w.heap.size+1+1+1) (.inr (by omega)) _ _ _).wide (by omega) (by simp)
end Go.Proofs.YteldgdelmaeokaaGreatDoor
