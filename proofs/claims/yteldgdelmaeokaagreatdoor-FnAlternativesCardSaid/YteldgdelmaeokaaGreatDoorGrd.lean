/- The walk of spec.l22Part. Conditions: the description reads as its rules, which are small; the value reads as its data and is small; the text has at most 2^21 bytes. -/
import Derived.Test.YteldgdelmaeokaaGreatDoorGdk
import Derived.WalkSpells
import Derived.WalkLawsBesides
import Derived.Deep.RegionHeld3
set_option linter.unusedSimpArgs false
set_option linter.unusedVariables false
set_option maxHeartbeats 4000000
set_option maxRecDepth 100000
namespace Go.Proofs.YteldgdelmaeokaaGreatDoor
open Go.Proofs.Tryz Go.RowKit
def partV (D:List Zi) (x:Zv) (ok:Bool) (S:List ByteArray) (kd:Int):Zv × Int × Bool:=
 ((Ya D x ok S).1,(Ya D x ok S).2.1,(Ya D x ok S).2.2 && Xj D (Ya D x ok S).2.1 kd)
theorem Ij {D:List Zi} {x y:Zv} {ok:Bool} {S:List ByteArray} {k:Int} {b:Bool} (h:Ya D x ok S=(y,k,b)) (kd:Int):partV D x ok S kd=(y,k,b && Xj D k kd):=by unfold partV;rw [h]
theorem Lx (vD:Value) (l:List RM) (x:VM) (s:ByteArray) (kd:Int) (B:Nat) (w:World) (h:Qz w B vD l) (hB:B≤w.heap.size) (ok:∀r∈l,r.d.ok) (sm:∀r∈l,r.d.small 1048576) (hx:x.rd w B) (hs:x.d.size≤4194304) (hss:s.size≤2097152):
  Calls prog 29 #[.agg #[vD],Qs x, .string s, .int .i64 kd] w (Mu (partV (l.map RM.d) x.d (Qt Zf s) (Yr Zf s) kd) w):=by
 have hlm:(l.map RM.d).length=l.length:=List.length_map ..
 have hF:∀W,Below w.heap.size w W→Calls prog 10 #[.agg #[vD],Qs x, .string s] W (Mu (Ya (l.map RM.d) x.d (Qt Zf s) (Yr Zf s)) W):=fun W hb=>
  Xw vD l x s B W (h.below (hb.mono hB)) (by have:=hb.size;omega) ok sm (hx.bel (hb.mono hB)) hs hss
 obtain ⟨A,c,rfl,hc,hm, -⟩:=h.open_
 obtain ⟨Ax,cx,ex, -⟩:=hx.bytes.open_
 obtain ⟨Ay,cy,ey, -⟩:=hx.its.open_
 have hRC:∀k (hk:k < l.length),_:=fun k hk=> Zw h k hk
 unfold Qs at hF ⊢
 rw [ex,ey] at hF ⊢
 obtain ⟨FY,FK,FB,hf⟩:∃a b c,Ya (l.map RM.d) x.d (Qt Zf s) (Yr Zf s)=(a,b,c):=⟨_,_,_,rfl⟩
 rw [hf] at hF
 rw [Ij hf]
 have HF:=Fs hF
 have HLM:=Fs hlm
 have HFV:=Fs hf
 have HRC:=Fs hRC
 have hnl:l.length≤9223372036854775807:=by unfold maxLen at hm;omega
 clear hF hlm hf h hx ok sm hs ex ey hc hss hm hRC
 generalize x.items.length=nx at*
 obtain ⟨W0,hW0⟩:∃W0,W0=(((w.alloc (.cells #[.slice A l.length c] 26)).alloc (.cells #[.int .i64 x.n, .slice Ax x.b.length cx, .slice Ay nx cy] 29)).alloc (.cells #[.int .i64 0, .slice none 0 0, .slice none 0 0] 29)):=⟨_,rfl⟩
 have hb0:Below w.heap.size w W0:=by rw [hW0];exact (((Fv w.heap.size w).alloc (Fu _) _).alloc (by simp) _).alloc (by simp;omega) _
 have hz0:W0.heap.size=w.heap.size+3:=by rw [hW0];simp
 have s0:W0.cell? ⟨w.heap.size,0,none⟩=some (.slice A l.length c):=by rw [hW0];simp [go_sem]
 have v0:W0.cell? ⟨w.heap.size+1,0,none⟩=some (.int .i64 x.n):=by rw [hW0];simp [go_sem]
 have v1:W0.cell? ⟨w.heap.size+1,1,none⟩=some (.slice Ax x.b.length cx):=by rw [hW0];simp [go_sem]
 have v2:W0.cell? ⟨w.heap.size+1,2,none⟩=some (.slice Ay nx cy):=by rw [hW0];simp [go_sem]
 have HR3:B3 W0 (w.heap.size+1+1) (.int .i64 0) (.slice none 0 0) (.slice none 0 0):=by
  rw [hW0]
  have:=B3.new ((w.alloc (.cells #[.slice A l.length c] 26)).alloc (.cells #[.int .i64 x.n, .slice Ax x.b.length cx, .slice Ay nx cy] 29)) (.int .i64 0) (.slice none 0 0) (.slice none 0 0) 29
  simpa using this
 go_enter func29,ntmps29
 go_upto_region 1 with fail
 rw [←hW0]
 clear hW0
 go_wp2_with fail
 refine (HF.out _ hb0).mono ?_
 rintro e w1 ⟨v,rfl,ho,bel⟩
 obtain ⟨A1,c1,A2,c2,rfl⟩:=ho.agg
 obtain ⟨W2,hW2⟩:∃W2,W2=w1.alloc (.cells #[.int .i64 FY.n, .slice A1 FY.b.length c1, .slice A2 FY.items.length c2] 29):=⟨_,rfl⟩
 have h12:Below w1.heap.size w1 W2:=by rw [hW2];exact (Fv _ _).alloc (Fu _) _
 have BB2:B3 W2 w1.heap.size (.int .i64 FY.n) (.slice A1 FY.b.length c1) (.slice A2 FY.items.length c2):=by rw [hW2];exact B3.new w1 _ _ _ _
 have b02:=bel.trans (h12.mono bel.size)
 have bw:=Zb b02 hb0
 have hz1:w.heap.size+3≤w1.heap.size:=by have:=bel.size;omega
 have s2:=Ec b02 s0
 have RB:=HR3.later b02
 have HO:=Fs (ho.keep (Xq.of_below h12 0 0) (.inr (Eb _)))
 have HZ1:=Fs (Ft bel.size h12.size)
 clear ho bel h12 b02 s0 v0 v1 v2 HR3 hb0
 go_upto_region 2 with fail
 rw [←hW2]
 clear hW2
 obtain ⟨lb,b0,b1,b2,g0,g1,g2⟩:=BB2
 obtain ⟨lt,t0,t1,t2,f0,f1,f2⟩:=RB
 have HB:=Fs bw
 cases FB
 ·clear HRC HFV HF
  go_wp2
  refine bodyPost_ret (v:= .tuple #[.agg #[.int .i64 FY.n, .slice A1 FY.b.length c1, .slice A2 FY.items.length c2], .int .i64 FK, .bool false]) (by simp [results,results29,go_sem,t0,t1,t2]) rfl ⟨_,rfl,?_,Qm HB.out (by omega) _ _ _⟩
  have hz:=HZ1.out
  refine (HO.out.set3 (g:=w.heap.size+1+1) (.inr (by omega)) _ _ _).wide (by omega) (by simp;omega)
 ·have hft:=Xn HFV.out
  have hval:=Xl (k:=((l.map RM.d).length - 1:Nat)) (by
   have:=hft.1
   rw [HLM.out] at this
   have hkn:Qd (l.map RM.d) ((l.length:Int) - 1)=true∧Zn (l.map RM.d) ((l.length:Int) - 1) x.d=true:=by simp only [Bool.and_eq_true] at this;exact this.2
   have hl:0 < l.length:=by have:=Vt hkn.1;omega
   rw [HLM.out,←Tp hl]
   exact hkn.2) hft.2
  obtain ⟨k,rfl,hk⟩:=Jy hval
  rw [HLM.out] at hk
  have hik:Xj (l.map RM.d) k kd=decide (l[k].d.kind=kd):=by rw [Xr (by rw [HLM.out];exact hk),List.getElem_map]
  obtain ⟨b,off,A3,c3,A4,c4,A5,c5,A6,c6,rfl,hbB, -, -, -, -, -, -, -, -,hcell⟩:=HRC.out k hk
  obtain ⟨-,x1, -, -, -, -, -, -⟩:=hcell W2 (Zu bw hB)
  have HIK:=Fs hik
  clear hik hval hft HFV HRC HF hcell
  generalize l[k].d.kind=kk at*
  by_cases hkk:kk=kd
  ·subst hkk
   go_wp2
   refine bodyPost_ret (v:= .tuple #[.agg #[.int .i64 FY.n, .slice A1 FY.b.length c1, .slice A2 FY.items.length c2], .int .i64 k, .bool true]) (by simp [results,results29,go_sem,t0,t1,t2]) rfl ⟨.agg #[.int .i64 FY.n, .slice A1 FY.b.length c1, .slice A2 FY.items.length c2],by show _=Ending.returned (.tuple #[_, .int .i64 k, .bool (true && Xj (l.map RM.d) k kk)]);rw [HIK.out];simp,?_,Qm HB.out (by omega) _ _ _⟩
   have hz:=HZ1.out
   refine (HO.out.set3 (g:=w.heap.size+1+1) (.inr (by omega)) _ _ _).wide (by omega) (by simp;omega)
  ·have hkk':(kk !=kd)=true:=bne_iff_ne.2 hkk
   have HKK:=Fs hkk
   go_wp2
   refine bodyPost_ret (v:= .tuple #[.agg #[.int .i64 FY.n, .slice A1 FY.b.length c1, .slice A2 FY.items.length c2], .int .i64 k, .bool false]) (by simp [results,results29,go_sem,t0,t1,t2]) rfl ⟨.agg #[.int .i64 FY.n, .slice A1 FY.b.length c1, .slice A2 FY.items.length c2],by show _=Ending.returned (.tuple #[_, .int .i64 k, .bool (true && Xj (l.map RM.d) k kd)]);rw [HIK.out];simp [HKK.out],?_,Qm HB.out (by omega) _ _ _⟩
   have hz:=HZ1.out
   refine (HO.out.set3 (g:=w.heap.size+1+1) (.inr (by omega)) _ _ _).wide (by omega) (by simp;omega)
end Go.Proofs.YteldgdelmaeokaaGreatDoor
