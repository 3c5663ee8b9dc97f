/- The walks of impl.SelectAlternative and impl.SetOption. Conditions: the description reads as its drawn rules; the value reads as its data and is small; the text has at most 2^21 bytes. -/
import Derived.Test.YteldgdelmaeokaaGreatDoorGsa
import Derived.Test.YteldgdelmaeokaaGreatDoorGsb
import Derived.WalkSpells
import Derived.WalkLawsBesides
import Derived.Deep.RegionHeld3
set_option linter.unusedSimpArgs false
set_option linter.unusedVariables false
set_option maxHeartbeats 4000000
set_option maxRecDepth 100000
namespace Go.Proofs.YteldgdelmaeokaaGreatDoor
open Go.Proofs.Tryz Go.RowKit
theorem implSel_any (vD:Value) (l:List RM) (x:VM) (s:ByteArray) (tag:Int) (B:Nat) (w:World) (h:Qz w B vD l) (hB:B≤w.heap.size) (ok:∀r∈l,r.d.ok) (sm:∀r∈l,r.d.small 1048576) (hx:x.rd w B) (hs:x.d.size≤2097152) (hD:Ud (l.map RM.d)) (h9:l.length≤9) (hss:s.size≤2097152) (ht:Tab w):
  Calls prog 13 #[.agg #[vD],Qs x, .string s, .int .i64 tag] w (Uw (Ue (Qv (l.map RM.d) x.d (Qt Zf s) (Yr Zf s) (Vd (l.map RM.d) tag)).1) (.bool (Qv (l.map RM.d) x.d (Qt Zf s) (Yr Zf s) (Vd (l.map RM.d) tag)).2) w):=by
 have hE:∀(gd ga:Nat) W,Below w.heap.size w W→W.cell? ⟨gd,0,none⟩=some vD→W.cell? ⟨ga,0,none⟩=some (.int .i64 tag)→
   Calls prog 24 #[.agg #[vD],Qs x, .string s, .func (.func 39) #[] #[.pointer (some ⟨gd,0,none⟩), .pointer (some ⟨ga,0,none⟩)]] W (Uw (Ue (Qv (l.map RM.d) x.d (Qt Zf s) (Yr Zf s) (Vd (l.map RM.d) tag)).1) (.bool (Qv (l.map RM.d) x.d (Qt Zf s) (Yr Zf s) (Vd (l.map RM.d) tag)).2) W):=fun gd ga W hb d0 a0=>
  Kf vD l x s B W (h.below (hb.mono hB)) (by have:=hb.size;omega) ok sm (hx.bel (hb.mono hB)) hs hss (Pb ht hb) _ 39 gd ga (fun _ _=> rfl)
   fun x' S lo g t y k g' o' W' hb' hlo hlg hg hlW hbx hfz _ _ hpt=> selClo_any vD l tag gd ga B W (h.below (hb.mono hB)) (by have:=hb.size;omega) hD h9 d0 a0 x' S lo g t y k g' o' W' hb' hlo hlg hg hlW hbx hfz hpt
 obtain ⟨A,c,rfl,hc,hm, -⟩:=h.open_
 obtain ⟨Ax,cx,ex, -⟩:=hx.bytes.open_
 obtain ⟨Ay,cy,ey, -⟩:=hx.its.open_
 unfold Qs at hE ⊢
 rw [ex,ey] at hE ⊢
 have HE:=Fs hE
 generalize Qv (l.map RM.d) x.d (Qt Zf s) (Yr Zf s) (Vd (l.map RM.d) tag)=f at*
 clear hE h hx ok sm ht hs ex ey hc hm
 generalize l.length=nl at*
 generalize x.items.length=nx at*
 obtain ⟨W0,hW0⟩:∃W0,W0=((((w.alloc (.cells #[.slice A nl c] 26)).alloc (.cells #[.int .i64 x.n, .slice Ax x.b.length cx, .slice Ay nx cy] 29)).alloc (.cells #[.int .i64 tag] 3)).alloc (.cells #[.int .i64 0, .slice none 0 0, .slice none 0 0] 29)):=⟨_,rfl⟩
 have hb0:Below w.heap.size w W0:=by rw [hW0];exact ((((Fv w.heap.size w).alloc (Fu _) _).alloc (by simp) _).alloc (by simp;omega) _).alloc (by simp;omega) _
 have hz0:W0.heap.size=w.heap.size+4:=by rw [hW0];simp
 have s0:W0.cell? ⟨w.heap.size,0,none⟩=some (.slice A nl c):=by rw [hW0];simp [go_sem]
 have v0:W0.cell? ⟨w.heap.size+1,0,none⟩=some (.int .i64 x.n):=by rw [hW0];simp [go_sem]
 have v1:W0.cell? ⟨w.heap.size+1,1,none⟩=some (.slice Ax x.b.length cx):=by rw [hW0];simp [go_sem]
 have v2:W0.cell? ⟨w.heap.size+1,2,none⟩=some (.slice Ay nx cy):=by rw [hW0];simp [go_sem]
 have a0:W0.cell? ⟨w.heap.size+1+1,0,none⟩=some (.int .i64 tag):=by rw [hW0];simp [go_sem]
 have HR3:B3 W0 (w.heap.size+1+1+1) (.int .i64 0) (.slice none 0 0) (.slice none 0 0):=by
  rw [hW0]
  have:=B3.new (((w.alloc (.cells #[.slice A nl c] 26)).alloc (.cells #[.int .i64 x.n, .slice Ax x.b.length cx, .slice Ay nx cy] 29)).alloc (.cells #[.int .i64 tag] 3)) (.int .i64 0) (.slice none 0 0) (.slice none 0 0) 29
  simpa using this
 have HE1:=Fs (HE.out w.heap.size (w.heap.size+1+1) W0 hb0 s0 a0)
 clear HE
 go_enter func13,ntmps13
 go_upto_region 1 with fail
 rw [←hW0]
 clear hW0
 go_wp2_with fail
 refine HE1.out.mono ?_
 rintro e w4 ⟨v,rfl,ho,bel⟩
 have HB:=Fs (Zb bel hb0)
 have RB:=HR3.later bel
 obtain ⟨A1,c1,A2,c2,rfl⟩:=ho.agg
 have HO:=Fs ho
 have HZ:=Fs bel.size
 clear ho bel s0 v0 v1 v2 a0 HR3 HE1
 obtain ⟨lt,t0,t1,t2,f0,f1,f2⟩:=RB
 go_wp2
 refine bodyPost_ret (v:= .tuple #[.agg #[.int .i64 f.1.n, .slice A1 f.1.b.length c1, .slice A2 f.1.items.length c2], .bool f.2]) (by simp [results,results13,go_sem,t0,t1,t2]) rfl ⟨_,rfl,?_,Qm HB.out (by omega) _ _ _⟩
 have hz:=HZ.out
 refine (HO.out.set3 (g:=w.heap.size+1+1+1) (.inr (by omega)) _ _ _).wide (by omega) (by simp)
theorem implOpt_any (vD:Value) (l:List RM) (x:VM) (s:ByteArray) (pr:Bool) (B:Nat) (w:World) (h:Qz w B vD l) (hB:B≤w.heap.size) (ok:∀r∈l,r.d.ok) (sm:∀r∈l,r.d.small 1048576) (hx:x.rd w B) (hs:x.d.size≤2097152) (hD:Ud (l.map RM.d)) (h9:l.length≤9) (hss:s.size≤2097152) (ht:Tab w):
  Calls prog 17 #[.agg #[vD],Qs x, .string s, .bool pr] w (Uw (Ue (Qv (l.map RM.d) x.d (Qt Zf s) (Yr Zf s) (Uf (l.map RM.d) pr)).1) (.bool (Qv (l.map RM.d) x.d (Qt Zf s) (Yr Zf s) (Uf (l.map RM.d) pr)).2) w):=by
 have hE:∀(gd ga:Nat) W,Below w.heap.size w W→W.cell? ⟨gd,0,none⟩=some vD→W.cell? ⟨ga,0,none⟩=some (.bool pr)→
   Calls prog 24 #[.agg #[vD],Qs x, .string s, .func (.func 46) #[] #[.pointer (some ⟨gd,0,none⟩), .pointer (some ⟨ga,0,none⟩)]] W (Uw (Ue (Qv (l.map RM.d) x.d (Qt Zf s) (Yr Zf s) (Uf (l.map RM.d) pr)).1) (.bool (Qv (l.map RM.d) x.d (Qt Zf s) (Yr Zf s) (Uf (l.map RM.d) pr)).2) W):=fun gd ga W hb d0 a0=>
  Kf vD l x s B W (h.below (hb.mono hB)) (by have:=hb.size;omega) ok sm (hx.bel (hb.mono hB)) hs hss (Pb ht hb) _ 46 gd ga (fun _ _=> rfl)
   fun x' S lo g t y k g' o' W' hb' hlo hlg hg hlW hbx hfz _ _ hpt=> optClo_any vD l pr gd ga B W (h.below (hb.mono hB)) (by have:=hb.size;omega) hD h9 d0 a0 x' S lo g t y k g' o' W' hb' hlo hlg hg hlW hbx hfz hpt
 obtain ⟨A,c,rfl,hc,hm, -⟩:=h.open_
 obtain ⟨Ax,cx,ex, -⟩:=hx.bytes.open_
 obtain ⟨Ay,cy,ey, -⟩:=hx.its.open_
 unfold Qs at hE ⊢
 rw [ex,ey] at hE ⊢
 have HE:=Fs hE
 generalize Qv (l.map RM.d) x.d (Qt Zf s) (Yr Zf s) (Uf (l.map RM.d) pr)=f at*
 clear hE h hx ok sm ht hs ex ey hc hm
 generalize l.length=nl at*
 generalize x.items.length=nx at*
 obtain ⟨W0,hW0⟩:∃W0,W0=((((w.alloc (.cells #[.slice A nl c] 26)).alloc (.cells #[.int .i64 x.n, .slice Ax x.b.length cx, .slice Ay nx cy] 29)).alloc (.cells #[.bool pr] 4)).alloc (.cells #[.int .i64 0, .slice none 0 0, .slice none 0 0] 29)):=⟨_,rfl⟩
 have hb0:Below w.heap.size w W0:=by rw [hW0];exact ((((Fv w.heap.size w).alloc (Fu _) _).alloc (by simp) _).alloc (by simp;omega) _).alloc (by simp;omega) _
 have hz0:W0.heap.size=w.heap.size+4:=by rw [hW0];simp
 have s0:W0.cell? ⟨w.heap.size,0,none⟩=some (.slice A nl c):=by rw [hW0];simp [go_sem]
 have v0:W0.cell? ⟨w.heap.size+1,0,none⟩=some (.int .i64 x.n):=by rw [hW0];simp [go_sem]
 have v1:W0.cell? ⟨w.heap.size+1,1,none⟩=some (.slice Ax x.b.length cx):=by rw [hW0];simp [go_sem]
 have v2:W0.cell? ⟨w.heap.size+1,2,none⟩=some (.slice Ay nx cy):=by rw [hW0];simp [go_sem]
 have a0:W0.cell? ⟨w.heap.size+1+1,0,none⟩=some (.bool pr):=by rw [hW0];simp [go_sem]
 have HR3:B3 W0 (w.heap.size+1+1+1) (.int .i64 0) (.slice none 0 0) (.slice none 0 0):=by
  rw [hW0]
  have:=B3.new (((w.alloc (.cells #[.slice A nl c] 26)).alloc (.cells #[.int .i64 x.n, .slice Ax x.b.length cx, .slice Ay nx cy] 29)).alloc (.cells #[.bool pr] 4)) (.int .i64 0) (.slice none 0 0) (.slice none 0 0) 29
  simpa using this
 have HE1:=Fs (HE.out w.heap.size (w.heap.size+1+1) W0 hb0 s0 a0)
 clear HE
 go_enter func17,ntmps17
 go_upto_region 1 with fail
 rw [←hW0]
 clear hW0
 go_wp2_with fail
 refine HE1.out.mono ?_
 rintro e w4 ⟨v,rfl,ho,bel⟩
 have HB:=Fs (Zb bel hb0)
 have RB:=HR3.later bel
 obtain ⟨A1,c1,A2,c2,rfl⟩:=ho.agg
 have HO:=Fs ho
 have HZ:=Fs bel.size
 clear ho bel s0 v0 v1 v2 a0 HR3 HE1
 obtain ⟨lt,t0,t1,t2,f0,f1,f2⟩:=RB
 go_wp2
 refine bodyPost_ret (v:= .tuple #[.agg #[.int .i64 f.1.n, .slice A1 f.1.b.length c1, .slice A2 f.1.items.length c2], .bool f.2]) (by simp [results,results17,go_sem,t0,t1,t2]) rfl ⟨_,rfl,?_,Qm HB.out (by omega) _ _ _⟩
 have hz:=HZ.out
 refine (HO.out.set3 (g:=w.heap.size+1+1+1) (.inr (by omega)) _ _ _).wide (by omega) (by simp)
end Go.Proofs.YteldgdelmaeokaaGreatDoor
