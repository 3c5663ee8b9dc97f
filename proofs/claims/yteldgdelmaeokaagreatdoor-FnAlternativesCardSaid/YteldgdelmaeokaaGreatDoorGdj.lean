/- Out of DflP, DfH, DfS, DfI: the walks and plain laws that the claim needs. No condition but those that each theorem names. -/
import Derived.Test.YteldgdelmaeokaaGreatDoorGdd
import Derived.Test.YteldgdelmaeokaaGreatDoorGda
import Derived.Test.YteldgdelmaeokaaGreatDoorGn
import Derived.Test.YteldgdelmaeokaaGreatDoorGf
import Derived.Test.YteldgdelmaeokaaGreatDoorGh
import Derived.WalkSpells
import Derived.WalkLawsBesides
import Derived.Deep.RegionHeld3
set_option linter.unusedSimpArgs false
set_option linter.unusedVariables false
set_option maxHeartbeats 16000000
set_option maxRecDepth 100000
namespace Go.Proofs.YteldgdelmaeokaaGreatDoor
open Go.Proofs.Tryz Go.RowKit
def Mr (D:List Zi):Nat→Nat→Zv
 |0,_=> .mk 0 [] []
 |f+1,k=>
  match D[k]? with
  |none=> .mk 0 [] []
  |some r=>
   if r.kind=3 then .mk 0 (List.replicate r.size.toNat 0) []
   else if r.kind=7 then .mk (r.tags.headD 0) [] [Mr D f (r.kids.getD 1 0).toNat]
   else if r.kind=6∨r.kind=9 then .mk 0 [] (r.kids.map fun q=> Mr D f q.toNat)
   else .mk 0 [] []
def Jw (D:List Zi) (k:Nat):Zv:=Mr D (k+1) k
theorem Pw {D:List Zi} {k:Nat} (hk:k < D.length) (f:Nat):Mr D (f+1) k=if D[k].kind=3 then .mk 0 (List.replicate D[k].size.toNat 0) [] else if D[k].kind=7 then .mk (D[k].tags.headD 0) [] [Mr D f (D[k].kids.getD 1 0).toNat] else if D[k].kind=6∨D[k].kind=9 then .mk 0 [] (D[k].kids.map fun q=> Mr D f q.toNat) else .mk 0 [] []:=by
 rw [Mr,List.getElem?_eq_getElem hk]
theorem headD_pos:∀(l:List Int) (h:0 < l.length),l.headD 0=l[0]
 | [],h=> by simp at h
 |a::l,_=> rfl
theorem Gv {D:List Zi} (h:∀k (hk:k < D.length),Lk D k hk):∀k f,k < f→Mr D f k=Jw D k:=by
 intro k
 induction k using Nat.strongRecOn with
 |ind k ih=>
 intro f hf
 obtain ⟨g,rfl⟩:∃g,f=g+1:=⟨f - 1,by omega⟩
 unfold Jw Mr
 cases hd:D[k]? with
 |none=> rfl
 |some r=>
  obtain ⟨hk,rfl⟩:=List.getElem?_eq_some_iff.1 hd
  have hks:=(h k hk).kids
  have hq:∀a:Int,0≤a→a < (k:Int)→Mr D g a.toNat=Mr D k a.toNat:=fun a h0 h1=> (ih a.toNat (by omega) g (by omega)).trans (ih a.toNat (by omega) k (by omega)).symm
  simp only
  by_cases q7:D[k].kind=7
  ·obtain ⟨h1,h2, -⟩:=val7 (h k hk) q7
   have hk2:1 < D[k].kids.length:=by omega
   have e:D[k].kids.getD 1 0=D[k].kids[1]:=by rw [List.getD_eq_getElem?_getD,List.getElem?_eq_getElem hk2];rfl
   have ha:=hks _ (Fw hk2)
   rw [e,hq _ ha.1 ha.2]
   simp [q7]
  ·have e:(D[k].kids.map fun q=> Mr D g q.toNat)=D[k].kids.map fun q=> Mr D k q.toNat:=List.map_congr_left fun a ha=> hq a (hks a ha).1 (hks a ha).2
   rw [if_neg q7,if_neg q7,e]
theorem dfl_3 {D:List Zi} {k:Nat} (hk:k < D.length) (e:D[k].kind=3):Jw D k= .mk 0 (List.replicate D[k].size.toNat 0) []:=by
 unfold Jw
 rw [Pw hk,if_pos e]
theorem dfl_7 {D:List Zi} (h:∀k (hk:k < D.length),Lk D k hk) {k:Nat} (hk:k < D.length) (e:D[k].kind=7):∃(h1:0 < D[k].tags.length) (h2:1 < D[k].kids.length) (q:Nat),D[k].kids[1]=q∧q < k∧Jw D k= .mk D[k].tags[0] [] [Jw D q]:=by
 obtain ⟨h1,h2, -⟩:=val7 (h k hk) e
 have hk2:1 < D[k].kids.length:=by omega
 obtain ⟨q,hq,hqk⟩:=(h k hk).kidN hk2
 refine ⟨by omega,hk2,q,hq,hqk,?_⟩
 have e2:D[k].kids.getD 1 0=q:=by rw [List.getD_eq_getElem?_getD,List.getElem?_eq_getElem hk2,←hq];rfl
 rw [←Gv h q k hqk]
 unfold Jw
 rw [Pw hk,if_neg (by omega),if_pos e,e2,headD_pos _ (by omega),Int.toNat_natCast]
theorem dfl_s {D:List Zi} (h:∀k (hk:k < D.length),Lk D k hk) {k:Nat} (hk:k < D.length) (e:D[k].kind=6∨D[k].kind=9):Jw D k= .mk 0 [] (D[k].kids.map fun q=> Jw D q.toNat):=by
 have e1:(D[k].kids.map fun q=> Mr D k q.toNat)=D[k].kids.map fun q=> Jw D q.toNat:=List.map_congr_left fun a ha=> by
  have:=(h k hk).kids a ha
  exact Gv h _ _ (by omega)
 rw [←e1]
 conv=> lhs;unfold Jw
 rw [Pw hk,if_neg (by omega),if_neg (by omega),if_pos e]
theorem dfl_0 {D:List Zi} {k:Nat} (hk:k < D.length) (e3:D[k].kind≠3) (e7:D[k].kind≠7) (e6:D[k].kind≠6) (e9:D[k].kind≠9):Jw D k= .mk 0 [] []:=by
 unfold Jw
 rw [Pw hk,if_neg e3,if_neg e7,if_neg (by omega)]
theorem Fp {D:List Zi} (h:∀k (hk:k < D.length),Lk D k hk) (k:Nat):k < D.length→Zn D k (Jw D k)=true∧(Jw D k).size≤sB k:=by
 induction k using Nat.strongRecOn with
 |ind k ih=>
 intro hk
 have hr:=h k hk
 by_cases q3:D[k].kind=3
 ·rw [dfl_3 hk q3]
  obtain ⟨h0,hv⟩:=val3 hr q3
  exact ⟨hv _ (by rw [List.length_replicate];omega),Yk (by rw [List.length_replicate];have:=hr.size;omega) (by simp) (.inl rfl) (by simp)⟩
 by_cases q7:D[k].kind=7
 ·obtain ⟨h1,h2,q,hq,hqk,e⟩:=dfl_7 h hk q7
  obtain ⟨-, -,hv⟩:=val7 hr q7
  obtain ⟨i1,i2⟩:=ih q hqk (by omega)
  rw [e]
  refine ⟨hv 0 h1 h2 _ (by rw [show D[k].kids[0+1]=(q:Int) from hq];exact i1),Yk (by simp) (by simp) (.inr (by omega)) fun x hx=> ?_⟩
  simp only [List.mem_singleton] at hx
  subst hx
  exact Nat.le_trans i2 (Th (by omega))
 by_cases qs:D[k].kind=6∨D[k].kind=9
 ·rw [dfl_s h hk qs]
  have hkid:∀j (hj:j < D[k].kids.length),Zn D D[k].kids[j] (Jw D D[k].kids[j].toNat)=true∧(Jw D D[k].kids[j].toNat).size≤sB (k - 1)∧0 < k:=fun j hj=> by
   obtain ⟨q,hq,hqk⟩:=hr.kidN hj
   obtain ⟨i1,i2⟩:=ih q hqk (by omega)
   rw [hq,Int.toNat_natCast]
   exact ⟨i1,Nat.le_trans i2 (Th (by omega)),by omega⟩
  have hsz:∀x∈D[k].kids.map (fun q=> Jw D q.toNat),x.size≤sB (k - 1):=fun x hx=> by
   obtain ⟨a,ha,rfl⟩:=List.mem_map.1 hx
   obtain ⟨j,hj,rfl⟩:=List.getElem_of_mem ha
   exact (hkid j hj).2.1
  rcases qs with q6|q9
  ·obtain ⟨h3,hv⟩:=val6 hr q6
   refine ⟨hv _ (by rw [List.length_map]) fun j hj=> ?_,Yk (by simp) (by rw [List.length_map];exact h3) ?_ hsz⟩
   ·rw [List.getElem_map];exact (hkid j (by rwa [List.length_map] at hj)).1
   ·cases hkl:D[k].kids with
    |nil=> exact .inl rfl
    |cons a l=> exact .inr (hkid 0 (by rw [hkl];simp)).2.2
  ·obtain ⟨h2,hv⟩:=val9 hr q9
   have hl1:D[k].kids.length=1:=by
    have hg:=hr.good
    unfold Zp Zg at hg
    simp only [q9] at hg
    simp at hg
    omega
   have e1:D[k].kids.map (fun q=> Jw D q.toNat)= [Jw D D[k].kids[0].toNat]:=by
    apply List.ext_getElem
    ·rw [List.length_map,hl1];rfl
    ·intro j h1 h2
     have:j=0:=by simp at h2;omega
     subst this
     rw [List.getElem_map];rfl
   rw [e1] at hsz ⊢
   exact ⟨hv _ (hkid 0 h2).1,Yk (by simp) (by simp) (.inr (hkid 0 h2).2.2) hsz⟩
 ·have q6:D[k].kind≠6:=fun e=> qs (.inl e)
  have q9:D[k].kind≠9:=fun e=> qs (.inr e)
  rw [dfl_0 hk q3 q7 q6 q9]
  refine ⟨?_,Yk (by simp) (by simp) (.inl rfl) (by simp)⟩
  have hkd:=hr.kind
  rcases (show D[k].kind=1∨D[k].kind=2∨D[k].kind=4∨D[k].kind=5∨D[k].kind=8∨D[k].kind=10 by omega) with e|e|e|e|e|e
  ·obtain ⟨h1,h2,hv⟩:=val1 hr e
   exact hv 0 (by omega) (by unfold Tb;rcases (show D[k].size=1∨D[k].size=2∨D[k].size=3∨D[k].size=4 by omega) with e|e|e|e <;> rw [e] <;> decide)
  ·exact val2 e
  ·exact val4 hr e [] (by simp)
  ·obtain ⟨h2,hv⟩:=val5 hr e
   exact hv [] (by simp) (by simp)
  ·obtain ⟨h2,hv, -⟩:=val8 hr e
   exact hv
  ·exact (val10 hr e).2 [] (by simp)
theorem Qg.done {W w:World} {lo o g:Nat} {bs:List UInt8} {vb vi:Value} {D:List VM} (h:Qg W lo o bs vb vi D) (hg:g < lo) (hw:w.heap.size≤lo) (n:Int):
  ∃x:VM, .agg #[.int .i64 n,vb,vi]=Qs x∧x.d= .mk n bs (D.map VM.d)∧Ug x w.heap.size (((W.setCell ⟨g,0,none⟩ (.int .i64 n)).setCell ⟨g,1,none⟩ vb).setCell ⟨g,2,none⟩ vi).heap.size (((W.setCell ⟨g,0,none⟩ (.int .i64 n)).setCell ⟨g,1,none⟩ vb).setCell ⟨g,2,none⟩ vi):=by
 obtain ⟨x,e1,e2,e3⟩:=(((h.setQ (j:=0) hg (.int .i64 n)).setQ (j:=1) hg vb).setQ (j:=2) hg vi).fin n
 exact ⟨x,e2,e1,e3.wide hw (Fu _)⟩
theorem Gg {w:World} {base g s:Nat} (h:w.ownsRow base 5 1 (.slice (some ⟨g,0,none⟩) s s) s (madeCells (Value.cells (.int .u8 0)) (s*1)).toList):w.ownsRow base 5 1 (.slice (some ⟨g,0,none⟩) s s) (List.replicate s (0:UInt8)).length (Uy (List.replicate s 0)):=by
 have e:(madeCells (Value.cells (.int .u8 0)) (s*1)).toList=Uy (List.replicate s 0):=by
  have h1:(madeCells (Value.cells (.int .u8 0)) (s*1)).toList=List.replicate (s*1) (.int .u8 0):=toList_madeCells_one _ _
  rw [h1,Nat.mul_one]
  simp [Uy,u8v]
 rw [e] at h
 rw [List.length_replicate]
 exact h
theorem Qg.one {W:World} {g lo o hi:Nat} {x:VM} {lx:Nat} (hg:Zo W g 29 (Ze x).toArray) (hx:Ug x lx g W) (h1:lo≤lx) (h2:hi≤lx) (h3:lo≤g) (ho:o < lo):Qg W lo o [] (.slice none 0 0) (.slice (some ⟨g,0,none⟩) 1 1) [x]:=by
 refine ⟨World.ownsRow_nil _ _ _ _,⟨by simp [Ze], .inr ⟨g,1,_,rfl,h3,hg,Fu _,by simp [maxLen],by simp [Ze],by simp [Ze]⟩⟩,fun y hy=> by simp at hy;subst hy;exact hx.own.base h1,?_⟩
 rw [VM.bkss_cons,VM.bkss_nil,List.append_nil]
 show (o::g::x.bks).Nodup
 rw [List.nodup_cons,List.nodup_cons]
 refine ⟨fun hm=> ?_,fun hm=> ?_,hx.nd⟩
 ·rcases List.mem_cons.1 hm with e|e
  ·omega
  ·have:=(hx.rng _ e).1;omega
 ·have:=(hx.rng _ hm).2;omega
theorem Jh {w w':World} {row:Option Nat} {g o:Nat} {u:Value} (hg:w.grownBy w' row) (h:w.cell? ⟨g,o,none⟩=some u) (hn:row≠some g):w'.cell? ⟨g,o,none⟩=some u:=by
 have hlt:=World.block_lt_of_cell? w ⟨g,o,none⟩ h
 rw [←h]
 unfold World.cell?
 simp only
 rw [hg.block g hlt (fun e=> hn e.symm)]
theorem Zo.put3 {W:World} {g:Nat} {T:TypeId} {a0 a1 a2:Value} (h:Zo W g T #[a0,a1,a2]) (u0 u1 u2:Value):
  Zo (((W.setCell ⟨g,0,none⟩ u0).setCell ⟨g,1,none⟩ u1).setCell ⟨g,2,none⟩ u2) g T #[u0,u1,u2]:=by simpa using ((h.set 0 u0).set 1 u1).set 2 u2
theorem Xe {B g:Nat} {w W:World} (h:Below B w W) (hg:B≤g) (u0 u1 u2:Value):Below B w (((W.setCell ⟨g,0,none⟩ u0).setCell ⟨g,1,none⟩ u1).setCell ⟨g,2,none⟩ u2):=
 ((h.setCell (p:=⟨g,0,none⟩) hg u0).setCell (p:=⟨g,1,none⟩) hg u1).setCell (p:=⟨g,2,none⟩) hg u2
theorem Zo.other3 {W:World} {g q:Nat} {T:TypeId} {cs:Array Value} (h:Zo W g T cs) (hq:q≠g) (u0 u1 u2:Value):Zo (((W.setCell ⟨q,0,none⟩ u0).setCell ⟨q,1,none⟩ u1).setCell ⟨q,2,none⟩ u2) g T cs:=((h.other hq u0).other hq u1).other hq u2
def DvE (D:List Zi) (k:Nat) (w:World) (e:Ending) (w':World):Prop:=∃x:VM,e= .returned (Qs x)∧Ug x w.heap.size w'.heap.size w'∧x.d=Jw D k∧Below w.heap.size w w'
def DvC (f:Nat) (L:List RM) (k:Nat):Prop:=∀(vD:Value) (B:Nat) (w:World),Qz w B vD L→B≤w.heap.size→Calls prog f #[.agg #[vD], .int .i64 k] w (DvE (L.map RM.d) k w)
structure DvK (L:List RM) (k:Nat) (hk:k < L.length):Prop where
 kids:∀a∈L[k].d.kids,0≤a∧a < (k:Int)
 few:L[k].d.kids.length≤4
 size:0≤L[k].d.size∧L[k].d.size≤4
 d3:L[k].d.kind=3→Jw (L.map RM.d) k= .mk 0 (List.replicate L[k].d.size.toNat 0) []
 d7:L[k].d.kind=7→∃(h1:0 < L[k].d.tags.length) (h2:1 < L[k].d.kids.length),∀q:Nat,L[k].d.kids[1]=q→Jw (L.map RM.d) k= .mk L[k].d.tags[0] [] [Jw (L.map RM.d) q]
 ds:L[k].d.kind=6∨L[k].d.kind=9→Jw (L.map RM.d) k= .mk 0 [] (L[k].d.kids.map fun q=> Jw (L.map RM.d) q.toNat)
 d9:L[k].d.kind=9→L[k].d.kids.length=1
 d0:L[k].d.kind≠3→L[k].d.kind≠7→L[k].d.kind≠6→L[k].d.kind≠9→Jw (L.map RM.d) k= .mk 0 [] []
theorem dvK {L:List RM} (hD:Ud (L.map RM.d)) (h9:L.length≤9) {k:Nat} (hk:k < L.length):DvK L k hk:=by
 have hlm:(L.map RM.d).length=L.length:=List.length_map ..
 have hR:∀k (hk:k < (L.map RM.d).length),Lk (L.map RM.d) k hk:=fun k hk=> hD.ruK (by rw [hlm];exact h9) hk
 have hkD:k < (L.map RM.d).length:=by rw [hlm];exact hk
 have hge:(L.map RM.d)[k]=L[k].d:=List.getElem_map ..
 have hr:=hR k hkD
 have h3:=dfl_3 hkD
 have h7:=dfl_7 hR hkD
 have hs:=dfl_s hR hkD
 have h0:=dfl_0 hkD
 have hkk:=hr.kids
 have hln:=hr.lens
 have hsz:=hr.size
 have hgd:=hr.good
 simp only [hge] at h3 h7 hs h0 hkk hln hsz hgd
 refine ⟨hkk,hln.2.2.2,hsz,h3,fun e=> ?_,hs,fun e=> ?_,h0⟩
 ·obtain ⟨h1,h2,q,hq, -,hd⟩:=h7 e
  exact ⟨h1,h2,fun q' hq'=> by
   have:q'=q:=by have:=hq'.symm.trans hq;omega
   rw [this];exact hd⟩
 ·unfold Zp Zg at hgd
  simp only [e] at hgd
  simp at hgd
  omega
theorem l9Dflt_any (L:List RM) (hD:Ud (L.map RM.d)) (h9:L.length≤9) (k:Nat):k < L.length→DvC 66 L k:=by
 induction k using Nat.strongRecOn with
 |ind k ih=>
 intro hk vD B w h hB
 obtain ⟨i0,hi0,hz0,hz1,hz2⟩:=info_parts info_value
 have hf0:=dvK hD h9 hk
 have HF0:=Fs hf0
 have hIH:∀q,q < k→∀W,Below w.heap.size w W→Calls prog 66 #[.agg #[vD], .int .i64 q] W (DvE (L.map RM.d) q W):=fun q hq W hw=> ih q hq (by omega) vD B W (h.below (hw.mono hB)) (by have:=hw.size;omega)
 have hKC:∀j (hj:j < L[k].d.kids.length),∃(q bk ok:Nat) (A5:Option Addr) (c5:Nat),L[k].vk= .slice A5 L[k].d.kids.length c5∧A5=some ⟨bk,ok,none⟩∧bk < B∧q < k∧L[k].d.kids[j]=q∧∀W,Below w.heap.size w W→W.cell? ⟨bk,ok+j,none⟩=some (.int .i64 q):=fun j hj=> by
  obtain ⟨A5,c5,e5, -, -,hc5⟩:=(h.2 _ (Fw hk)).k.one
  obtain ⟨bk,ok,e6,hbk,hc6⟩:=hc5 j hj
  have hx:=hf0.kids _ (Fw hj)
  obtain ⟨q,hq⟩:=Int.eq_ofNat_of_zero_le hx.1
  exact ⟨q,bk,ok,A5,c5,e5,e6,hbk,by omega,hq,fun W hw=> by rw [←hq];exact Zc hc6 (hw.mono hB) hbk⟩
 have hTG:∀hj:0 < L[k].d.tags.length,∃(bt ot:Nat) (A5:Option Addr) (c5:Nat) (t:Int),L[k].vt= .slice A5 L[k].d.tags.length c5∧A5=some ⟨bt,ot,none⟩∧bt < B∧L[k].d.tags[0]=t∧∀W,Below w.heap.size w W→W.cell? ⟨bt,ot,none⟩=some (.int .i64 t):=fun hj=> by
  obtain ⟨A5,c5,e5, -, -,hc5⟩:=(h.2 _ (Fw hk)).t.one
  obtain ⟨bk,ok,e6,hbk,hc6⟩:=hc5 0 hj
  exact ⟨bk,ok,A5,c5,_,e5,e6,hbk,rfl,fun W hw=> Zc hc6 (hw.mono hB) hbk⟩
 obtain ⟨A,c,rfl,hc,hm, -⟩:=h.open_
 obtain ⟨b0,off,A1,c1,A2,c2,A3,c3,A4,c4,rfl,hbB,e1,e2,e3,e4,m1,m2,m3,m4,hcell⟩:=Zw h k hk
 rw [e4] at hKC
 rw [e3] at hTG
 have HIH:=Fs hIH
 have HKC:=Fs hKC
 have HTG:=Fs hTG
 unfold maxLen at hm m3 m4
 clear hIH hKC hTG h ih hf0 e1 e2 e3 e4 hD
 obtain ⟨W0,hW0⟩:∃W0,W0=(w.alloc (.cells #[.slice (some ⟨b0,off,none⟩) L.length c] 26)).alloc (.cells #[.int .i64 0, .slice none 0 0, .slice none 0 0] 29):=⟨_,rfl⟩
 have hb0:Below w.heap.size w W0:=by rw [hW0];exact ((Fv w.heap.size w).alloc (Fu _) _).alloc (by simp) _
 have Kd:Zo W0 w.heap.size 26 #[.slice (some ⟨b0,off,none⟩) L.length c]:=by rw [hW0];exact (Zo.new w _ _).alloc _
 have Kv:Zo W0 (w.heap.size+1) 29 #[.int .i64 0, .slice none 0 0, .slice none 0 0]:=by
  rw [hW0]
  have:=Zo.new (w.alloc (.cells #[.slice (some ⟨b0,off,none⟩) L.length c] 26)) 29 #[.int .i64 0, .slice none 0 0, .slice none 0 0]
  simpa using this
 have s0:W0.cell? ⟨w.heap.size,0,none⟩=some (.slice (some ⟨b0,off,none⟩) L.length c):=Kd.cell 0 rfl
 obtain ⟨x0,x1,x2,x3,x4,x5,x6,x7⟩:=hcell W0 (Zu hb0 hB)
 have hbx:b0 < w.heap.size:=by omega
 have hz0':W0.heap.size≤w.heap.size+2:=by rw [hW0];simp
 have hz0'':w.heap.size+2≤W0.heap.size:=by rw [hW0];simp
 clear hcell
 go_enter func66,ntmps66
 go_upto_region 1 with fail
 rw [←hW0]
 clear hW0
 obtain ⟨W1,hW1⟩:∃W1,W1=W0.alloc (.cells #[.string L[k].d.name, .int .i64 L[k].d.kind, .int .i64 L[k].d.size, .bool L[k].d.little, .slice A1 L[k].d.bytes.length c1, .slice A2 L[k].d.names.length c2, .slice A3 L[k].d.tags.length c3, .slice A4 L[k].d.kids.length c4] 50):=⟨_,rfl⟩
 have h01:Below W0.heap.size W0 W1:=by rw [hW1];exact (Fv _ _).alloc (Fu _) _
 have Kr:Zo W1 W0.heap.size 50 #[.string L[k].d.name, .int .i64 L[k].d.kind, .int .i64 L[k].d.size, .bool L[k].d.little, .slice A1 L[k].d.bytes.length c1, .slice A2 L[k].d.names.length c2, .slice A3 L[k].d.tags.length c3, .slice A4 L[k].d.kids.length c4]:=by rw [hW1];exact Zo.new W0 _ _
 have hz1'':W1.heap.size≤w.heap.size+3:=by rw [hW1];simp;omega
 have H1:=Fs (Zb h01 hb0)
 have KD:=Fs (Kd.below h01)
 have KV:=Fs (Kv.below h01)
 have KR:=Fs Kr
 have hz1':w.heap.size+3≤W1.heap.size:=by have:=Kr.lt;omega
 clear Kd Kv h01 hb0
 go_upto_region 2 with fail
 rw [←hW1]
 clear hW1 s0 x0 x1 x2 x3 x4 x5 x6 x7
 have s0:W1.cell? ⟨w.heap.size,0,none⟩=some (.slice (some ⟨b0,off,none⟩) L.length c):=KD.out.cell 0 rfl
 obtain ⟨⟨t0,t1,t2,t3,t4,t5,t6,t7⟩, -⟩:=Kr.c8
 clear Kr
 by_cases q3:L[k].d.kind=3
 ·have HD3:=Fs (HF0.out.d3 q3)
  rw [q3] at t1
  clear q3
  have hrl:=HF0.out.size
  obtain ⟨s,hs⟩:=Int.eq_ofNat_of_zero_le hrl.1
  rw [hs] at t2 hrl HD3
  clear hs
  obtain ⟨i1,hj0,hy0,hy1,hy2⟩:=info_parts info_u8
  go_wp2_with (at_make;refine wpList_make_full _ rfl _ _ 22 rfl (w.heap.size+3) 5 i1 (.int .u8 0) 1 underlying22 hj0 hy0 hy1 _ _ _ _ s rfl rfl rfl rfl (by rw [hy2];omega) (by unfold maxLen;omega) (by exact hz1') ?_;intro w5 hown hg;have bel:Below W1.heap.size W1 w5:=Ju hg (Fu _) (by intro q hq;cases hq);have hown2:=Gg hown;have HX:=Fs (Qg.done (w:=w) (g:=w.heap.size+1) (Qg.mk0 (o:=w.heap.size+2) hown2 (World.ownsRow_nil _ _ _ _) (fun e=> by have e2:W1.heap.size=w.heap.size+2:=Fz e;omega) (fun e=> by cases e) (fun g e=> by cases e)) (by omega) (by omega) 0);have Kq:=KV.out.below bel;obtain ⟨⟨q0,q1,q2⟩,g0,g1,g2⟩:=Kq.c3;obtain ⟨⟨z0,z1,z2⟩, -⟩:=(Kq.put3 (.int .i64 0) (.slice (some ⟨W1.heap.size,0,none⟩) s s) (.slice none 0 0)).c3;have HB5:=Fs (Xe (Zb bel H1.out) (show w.heap.size≤w.heap.size+1 by omega) (.int .i64 0) (.slice (some ⟨W1.heap.size,0,none⟩) s s) (.slice none 0 0));clear hown hown2 hg bel Kq)
  obtain ⟨x,hxv,hxd,hxo⟩:=HX.out
  exact bodyPost_ret (v:= .agg #[.int .i64 0, .slice (some ⟨W1.heap.size,0,none⟩) s s, .slice none 0 0]) (by simp [results,results66,go_sem,z0,z1,z2]) rfl ⟨x,by rw [hxv],hxo,by rw [hxd,HD3.out,List.map_nil];rfl,HB5.out⟩
 by_cases q7:L[k].d.kind=7
 ·obtain ⟨ht0,hk0,hd7⟩:=HF0.out.d7 q7
  obtain ⟨q,bk,ok,A5,c5,e5,e6,hbk,hqk,hqe,hkc⟩:=HKC.out 1 (by omega)
  simp only [Value.slice.injEq] at e5
  obtain ⟨rfl, -,rfl⟩:=e5
  subst e6
  obtain ⟨bt,ot,A6,c6,tg,e7,e8,hbt,hte,htc⟩:=HTG.out (by omega)
  simp only [Value.slice.injEq] at e7
  obtain ⟨rfl, -,rfl⟩:=e7
  subst e8
  have ht1:=htc W1 H1.out
  have hbtw:bt < w.heap.size:=by omega
  have htl:0 < L[k].d.tags.length:=by omega
  have htl':(0:Int) < (L[k].d.tags.length:Int):=by omega
  have HTT:=Fs htc
  have hk1:=hkc W1 H1.out
  have hbkw:bk < w.heap.size:=by omega
  have hkl:1 < L[k].d.kids.length:=by omega
  have hkl':(1:Int) < (L[k].d.kids.length:Int):=by omega
  have HEQ:=Fs (show Jw (L.map RM.d) k= .mk tg [] [Jw (L.map RM.d) q] by rw [hd7 q hqe,hte])
  rw [q7] at t1
  have HI:=Fs (HIH.out q hqk)
  have HKK:=Fs hkc
  have bq:=(Fv W1.heap.size W1).drew
  clear q3 q7 hd7 hte hqe htc hkc HKC HTG HIH
  go_wp2_with fail
  refine wp_region_held_drew (S:=(fun w9=> w9.cell? ⟨w.heap.size,0,none⟩=some (.slice (some ⟨b0,off,none⟩) L.length c)∧w9.cell? ⟨W0.heap.size,6,none⟩=some (.slice (some ⟨bt,ot,none⟩) L[k].d.tags.length c3)∧w9.cell? ⟨W0.heap.size,7,none⟩=some (.slice (some ⟨bk,ok,none⟩) L[k].d.kids.length c4)∧w9.cell? ⟨bt,ot,none⟩=some (.int .i64 tg)∧w9.cell? ⟨bk,ok+1,none⟩=some (.int .i64 q))) (by kernel_rfl) ?_ (fun hHeld=> ?_)
  ·(try dsimp only);exact ⟨s0,t6,t7,ht1,hk1⟩
  refine Za 0 (some 23) hHeld _ ?_;try go_frame
  refine Za 1 (some 24) hHeld _ ?_;try go_frame
  refine Za 2 (some 25) hHeld _ ?_;try go_frame
  refine Za 3 (some 26) hHeld _ ?_;try go_frame
  refine Za 4 (some 27) hHeld _ ?_;try go_frame
  refine Za 5 (some 28) hHeld _ ?_;try go_frame
  refine Za 6 (some 29) hHeld _ ?_;try go_frame
  refine Za 7 (some 30) hHeld _ ?_;try go_frame
  refine Za 8 (some 31) hHeld _ ?_;try go_frame
  refine Zh 9 (fun K hK=> ?_)
  go_simp
  refine (HI.out _ (Zb bq H1.out)).mono ?_;rintro e5 w5 ⟨x,rfl,hxo,hxs,bel⟩;obtain ⟨A5,c5,e5, -⟩:=hxo.own.rd.bytes.open_;obtain ⟨A6,c6,e6, -⟩:=hxo.own.rd.its.open_;unfold Qs;rw [e5,e6];have hz5:=bq.size;have bq:=Zb bel bq;have HXO:=Fs (Ft hxo (Ft hxs (Ft e5 e6)));clear hxo hxs e5 e6
  (try go_wp2_with fail)
  refine hK.out _ _ ?_ (fun hHeld=> ?_)
  ·(try dsimp only);first|exact ⟨Ec bq s0,Ec bq t6,Ec bq t7,Ec bq ht1,Ec bq hk1⟩|exact ⟨es0,et6,et7,eht,ehk⟩
  clear hK K
  try go_frame
  refine Zh 10 (fun K hK=> ?_)
  (try go_simp)
  obtain ⟨X3,hX3⟩:∃V,V=w5.alloc (.cells #[.int .i64 x.n, .slice A5 x.b.length c5, .slice A6 x.items.length c6] 29):=⟨_,rfl⟩;rw [←hX3];have hbl:Below w5.heap.size w5 X3:=(by rw [hX3];exact (Fv _ _).alloc (Fu _) _);have hbk3:Zo X3 w5.heap.size 29 (Ze x).toArray:=(by rw [hX3];unfold Ze;rw [HXO.out.2.2.1,HXO.out.2.2.2];exact Zo.new w5 _ _);have HG:=Fs (Qg.one hbk3 (HXO.out.1.keep (Xq.of_below hbl 0 0) (.inr (Eb _))) (show w.heap.size+3≤W1.drew.heap.size by exact hz1') hz5 (by have:=bq.size;omega) (show w.heap.size+2 < w.heap.size+3 by omega));have bq:=Zb hbl bq;have Kq:=KV.out.below bq;obtain ⟨⟨q0,q1,q2⟩,g0,g1,g2⟩:=Kq.c3;clear hX3 hbl hbk3
  refine hK.out _ _ ?_ (fun hHeld=> ?_)
  ·(try dsimp only);first|exact ⟨Ec bq s0,Ec bq t6,Ec bq t7,Ec bq ht1,Ec bq hk1⟩|exact ⟨es0,et6,et7,eht,ehk⟩
  clear hK K
  try go_frame
  refine Za 11 (some 34) hHeld _ ?_;try go_frame
  refine Zh 12 (fun K hK=> ?_)
  (try go_simp)
  go_simp;have es0:=((KD.out.below bq).other3 (q:=w.heap.size+1) (by omega) (.int .i64 tg) (.slice none 0 0) (.slice (some ⟨w5.heap.size,0,none⟩) 1 1)).cell 0 rfl;have er:=((KR.out.below bq).other3 (q:=w.heap.size+1) (by omega) (.int .i64 tg) (.slice none 0 0) (.slice (some ⟨w5.heap.size,0,none⟩) 1 1));have et6:=er.cell 6 rfl;have et7:=er.cell 7 rfl;have bw:=Xe (Zb bq H1.out) (show w.heap.size≤w.heap.size+1 by omega) (.int .i64 tg) (.slice none 0 0) (.slice (some ⟨w5.heap.size,0,none⟩) 1 1);have eht:=HTT.out _ bw;have ehk:=HKK.out _ bw;have Kz:=Kq.put3 (.int .i64 tg) (.slice none 0 0) (.slice (some ⟨w5.heap.size,0,none⟩) 1 1)
  refine hK.out _ _ ?_ (fun hHeld=> ?_)
  ·(try dsimp only);first|exact ⟨Ec bq s0,Ec bq t6,Ec bq t7,Ec bq ht1,Ec bq hk1⟩|exact ⟨es0,et6,et7,eht,ehk⟩
  clear hK K
  try go_frame
  refine wpAnyH_done (by kernel_rfl) ?_ _
  obtain ⟨⟨z0,z1,z2⟩, -⟩:=Kz.c3
  obtain ⟨y,hyv,hyd,hyo⟩:=Qg.done (w:=w) (g:=w.heap.size+1) HG.out (by omega) (by omega) tg
  have HF:=Fs (Ft hyv (Ft hyo (Ft (show y.d=Jw (L.map RM.d) k by rw [hyd,HEQ.out,List.map_cons,List.map_nil,HXO.out.2.1]) bw)))
  clear bw bq Kq Kz es0 er et6 eht ht1 et7 ehk s0 t0 t1 t2 t3 t4 t5 t6 t7 hk1 q0 q1 q2 g0 g1 g2 hHeld hyv hyd hyo
  go_wp2
  exact bodyPost_ret (v:= .agg #[.int .i64 tg, .slice none 0 0, .slice (some ⟨w5.heap.size,0,none⟩) 1 1]) (by simp [results,results66,go_sem,z0,z1,z2]) rfl ⟨y,by rw [HF.out.1],HF.out.2.1,HF.out.2.2.1,HF.out.2.2.2⟩
 by_cases q69:L[k].d.kind=6∨L[k].d.kind=9
 ·rcases q69 with q6|q6
  all_goals
   have HDS:=Fs (HF0.out.ds (by omega))
   have HKL:=Fs (show L[k].d.kids.length≤4 from HF0.out.few)
   clear HTG
   obtain ⟨W2,hW2⟩:∃W2,W2=W1.alloc (.cells #[.int .i64 0, .slice none 0 0, .slice none 0 0] 29):=⟨_,rfl⟩
   have h12:Below W1.heap.size W1 W2:=by rw [hW2];exact (Fv _ _).alloc (Fu _) _
   have kx0:Zo W2 W1.heap.size 29 #[.int .i64 0, .slice none 0 0, .slice none 0 0]:=by rw [hW2];exact Zo.new W1 _ _
   have HS:=Fs (Ft h12 kx0)
   rw [q6] at t1
   clear q3 q7 q6
   go_upto_region 10 with fail
   rw [←hW2]
   clear hW2 h12 kx0 s0 t0 t1 t2 t3 t4 t5 t6 t7
   go_wp2
   go_loopw [7] (fun jv wr=> ∃(Ai:Option Addr) (ci:Nat) (Dl:List VM),Dl.length≤L[k].d.kids.length∧jv= .int .i64 Dl.length∧Zo wr W1.heap.size 29 #[.int .i64 0, .slice none 0 0, .slice Ai Dl.length ci]∧Hid (Qg wr (W1.heap.size+1) W1.heap.size [] (.slice none 0 0) (.slice Ai Dl.length ci) Dl)∧Hid (Dl.map VM.d=(L[k].d.kids.take Dl.length).map fun q=> Jw (L.map RM.d) q.toNat)∧Below W1.heap.size W1 wr) (fun jv _=> L[k].d.kids.length - (intOf jv).toNat)
   case atStart=> exact ⟨none,0, [],Eb _,rfl,HS.out.2,Fs (Qg.mk0 (World.ownsRow_nil _ _ _ _) (World.ownsRow_nil _ _ _ _) (fun e=> by cases e) (fun e=> by cases e) (fun g e=> by cases e)),Fs rfl,HS.out.1⟩
   case round=>
    obtain ⟨Ai,ci,Dl,hj,rfl,hkx,HG,HSZ,hbl⟩:=hrel
    have hsz:=hbl.size
    have hxl:=hkx.lt
    have s0:wr.cell? ⟨w.heap.size,0,none⟩=some (.slice (some ⟨b0,off,none⟩) L.length c):=(KD.out.below hbl).cell 0 rfl
    obtain ⟨⟨t0,t1,t2,t3,t4,t5,t6,t7⟩, -⟩:=(KR.out.below hbl).c8
    obtain ⟨⟨x0,x1,x2⟩, -⟩:=hkx.c3
    have HB:=Fs (Ft hbl (Ft (Zb hbl H1.out) hkx))
    clear hbl hkx
    by_cases hlt:Dl.length < L[k].d.kids.length
    ·obtain ⟨q,bk,ok,A5,c5,e5,e6,hbk,hqk,hqe,hkc⟩:=HKC.out Dl.length hlt
     simp only [Value.slice.injEq] at e5
     obtain ⟨rfl, -,rfl⟩:=e5
     subst e6
     have hk1:=hkc wr HB.out.2.1
     have hbkw:bk < w.heap.size:=by omega
     have HI:=Fs (HIH.out q hqk)
     have HQE:=Fs hqe
     have HLT:=Fs HG.out.row.lt
     have hkl4:=HKL.out
     have bq:=(Fv wr.heap.size wr).drew
     clear hkc hqe
     go_wp2_with fail
     refine Qr (S:=(fun w9=> w9.cell? ⟨w.heap.size,0,none⟩=some (.slice (some ⟨b0,off,none⟩) L.length c)∧w9.cell? ⟨W0.heap.size,7,none⟩=some (.slice (some ⟨bk,ok,none⟩) L[k].d.kids.length c4)∧w9.cell? ⟨bk,ok+Dl.length,none⟩=some (.int .i64 q)∧w9.cell? ⟨W1.heap.size,2,none⟩=some (.slice Ai Dl.length ci))) 12 (by kernel_rfl) ?_ (fun hHeld=> ?_)
     ·(try dsimp only);exact ⟨s0,t7,hk1,x2⟩
     refine Zt 0 (some 46) hHeld _ ?_;try go_frame
     refine Zt 1 (some 47) hHeld _ ?_;try go_frame
     refine Zt 2 (some 48) hHeld _ ?_;try go_frame
     refine Zt 3 (some 49) hHeld _ ?_;try go_frame
     refine Zt 4 (some 50) hHeld _ ?_;try go_frame
     refine Zt 5 (some 51) hHeld _ ?_;try go_frame
     refine Zt 6 (some 52) hHeld _ ?_;try go_frame
     refine Zt 7 (some 53) hHeld _ ?_;try go_frame
     refine Qw 8 (fun K hK=> ?_)
     go_simp
     refine (HI.out _ (Zb bq HB.out.2.1)).mono ?_;rintro e5 w5 ⟨x,rfl,hxo,hxs,bel⟩;obtain ⟨A5,c5,e5, -⟩:=hxo.own.rd.bytes.open_;obtain ⟨A6,c6,e6, -⟩:=hxo.own.rd.its.open_;unfold Qs;rw [e5,e6];have hz5:=bel.size;have HG5:=Fs (Qg.below HG.out (Zb bel bq));have bq:=Zb bel bq;have HXO:=Fs (Ft hxo (Ft hxs (Ft e5 e6)));clear hxo hxs e5 e6
     (try go_wp2_with fail)
     refine hK.out _ _ ?_ (fun hHeld=> ?_)
     ·(try dsimp only);first|exact ⟨Jh hg2 (Ec bq s0) (fun e=> by have:=HLT.out _ e;omega),Jh hg2 (Ec bq t7) (fun e=> by have:=HLT.out _ e;omega),Jh hg2 (Ec bq hk1) (fun e=> by have:=HLT.out _ e;omega),Jh hg2 (Ec bq x2) (fun e=> by have:=HLT.out _ e;omega)⟩|exact ⟨Ec bq s0,Ec bq t7,Ec bq hk1,Ec bq x2⟩
     clear hK K
     try go_frame
     refine Qw 9 (fun K hK=> ?_)
     (try go_simp)
     obtain ⟨X3,hX3⟩:∃V,V=w5.alloc (.cells #[.int .i64 x.n, .slice A5 x.b.length c5, .slice A6 x.items.length c6] 29):=⟨_,rfl⟩;rw [←hX3];have hbl:Below w5.heap.size w5 X3:=(by rw [hX3];exact (Fv _ _).alloc (Fu _) _);have hsl:=Fs (show Sl X3 (w5.heap.size+1) 3 (.slice (some ⟨w5.heap.size,0,none⟩) 1 1) 1 (Ze x) by rw [hX3];exact Tj (xs:=Ze x) (by unfold Ze;rw [HXO.out.2.2.1,HXO.out.2.2.2];exact Zo.new w5 _ _) rfl (Nat.lt_succ_self _));have bq:=Zb hbl bq;have HBL:=Fs hbl;have hz3:=bq.size;clear hX3 hbl
     refine hK.out _ _ ?_ (fun hHeld=> ?_)
     ·(try dsimp only);first|exact ⟨Jh hg2 (Ec bq s0) (fun e=> by have:=HLT.out _ e;omega),Jh hg2 (Ec bq t7) (fun e=> by have:=HLT.out _ e;omega),Jh hg2 (Ec bq hk1) (fun e=> by have:=HLT.out _ e;omega),Jh hg2 (Ec bq x2) (fun e=> by have:=HLT.out _ e;omega)⟩|exact ⟨Ec bq s0,Ec bq t7,Ec bq hk1,Ec bq x2⟩
     clear hK K
     try go_frame
     refine Qw 10 (fun K hK=> ?_)
     refine Je _ (.tmp 47) (.tmp 55) 27 rfl (W1.heap.size+1) 29 i0 (.agg #[.int .i64 0, .slice none 0 0, .slice none 0 0]) 3 56 underlying27 hi0 hz0 hz1 hz2 rfl (by decide) _ Dl.length (Dl.flatMap Ze) rfl (by exact (Qg.below HG5.out HBL.out).row) _ 1 _ (Ze x) rfl (by exact hsl.out) (Yl HXO.out.2.2.1 HXO.out.2.2.2) (by omega) (by unfold maxLen;omega) (by omega) ?_;intro v2 w6 own2 hg2 hv2;obtain ⟨An,cn,rfl⟩:=Zq own2;have kx6:=Zo.row (HB.out.2.2.below bq) hg2 (fun e=> by have:=HLT.out _ e;omega);obtain ⟨⟨y0,y1,y2⟩,f0,f1,f2⟩:=kx6.c3;have HG6:=Fs (Qg.snoc HG5.out HXO.out.1 (fun g hg'=> (List.mem_cons.1 hg').elim (fun e=> by rw [e];exact hxl) (fun h=> (Qg.lt HG.out g h).2)) hz5 (show W1.heap.size+1≤wr.heap.size by omega) HBL.out own2 hg2 hv2);have hb6:Below W1.heap.size W1 w6:=(Zb bq HB.out.1).grown hg2 (by omega) (fun q e=> by have:=HLT.out q e;omega);have H6:=Fs (Ft kx6 hb6);clear own2 hv2 kx6 hb6
     refine hK.out _ _ ?_ (fun hHeld=> ?_)
     ·(try dsimp only);first|exact ⟨Jh hg2 (Ec bq s0) (fun e=> by have:=HLT.out _ e;omega),Jh hg2 (Ec bq t7) (fun e=> by have:=HLT.out _ e;omega),Jh hg2 (Ec bq hk1) (fun e=> by have:=HLT.out _ e;omega),Jh hg2 (Ec bq x2) (fun e=> by have:=HLT.out _ e;omega)⟩|exact ⟨Ec bq s0,Ec bq t7,Ec bq hk1,Ec bq x2⟩
     clear hK K
     try go_frame
     refine Zt 11 (some 57) hHeld _ ?_;try go_frame
     refine Uz (fun K hK=> ?_)
     (try go_simp)
     go_simp
     refine hK.out _ _ ?_
     clear hK K
     try go_frame
     refine Js (by kernel_rfl) ?_ _
     have H7:=Fs (Ft (H6.out.1.set 2 (.slice An (Dl.length+1) cn)) (Ft (Qg.store (i:=2) HG6.out (.slice An (Dl.length+1) cn)) (H6.out.2.setCell (p:=⟨W1.heap.size,2,none⟩) (Fu _) (.slice An (Dl.length+1) cn))))
     have HSZ2:=Fs (show (Dl++ [x]).map VM.d=(L[k].d.kids.take (Dl.length+1)).map fun q=> Jw (L.map RM.d) q.toNat by
      rw [List.map_append,HSZ.out,List.take_add_one,List.getElem?_eq_getElem hlt,List.map_append,HQE.out]
      simp [HXO.out.2.1])
     clear bq s0 t0 t1 t2 t3 t4 t5 t6 t7 x0 x1 x2 y0 y1 y2 f0 f1 f2 hk1 hg2 hsl
     go_wp2
     go_roundw
     case rel=> exact ⟨An,cn,Dl++ [x],by rw [List.length_append,List.length_singleton];omega,by rw [List.length_append,List.length_singleton];go_num,by rw [List.length_append,List.length_singleton];exact H7.out.1,Fs (by rw [List.length_append,List.length_singleton];exact H7.out.2.1),Fs (by rw [List.length_append,List.length_singleton];exact HSZ2.out),H7.out.2.2⟩
     case measure=> simp [intOf];omega
    ·have hje:Dl.length=L[k].d.kids.length:=by omega
     clear s0 t0 t1 t2 t3 t4 t5 t6
     obtain ⟨x,hxv,hxd,hxo⟩:=Qg.done (w:=w) (g:=w.heap.size+1) HG.out (by omega) (by omega) 0
     have hxs:x.d=Jw (L.map RM.d) k:=by rw [hxd,HDS.out,HSZ.out,hje,List.take_length]
     have Kq:=KV.out.below HB.out.1
     obtain ⟨⟨q0,q1,q2⟩,g0,g1,g2⟩:=Kq.c3
     obtain ⟨⟨z0,z1,z2⟩, -⟩:=(Kq.put3 (.int .i64 0) (.slice none 0 0) (.slice Ai Dl.length ci)).c3
     have HF:=Fs (Ft hxv (Ft hxo (Ft hxs (Xe HB.out.2.1 (show w.heap.size≤w.heap.size+1 by omega) (.int .i64 0) (.slice none 0 0) (.slice Ai Dl.length ci)))))
     have hnl:¬(Dl.length:Int) < (L[k].d.kids.length:Int):=by omega
     clear Kq hxv hxd hxo hxs hje
     go_wp2
     exact bodyPost_ret (v:= .agg #[.int .i64 0, .slice none 0 0, .slice Ai Dl.length ci]) (by simp [results,results66,go_sem,z0,z1,z2]) rfl ⟨x,by rw [HF.out.1],HF.out.2.1,HF.out.2.2.1,HF.out.2.2.2⟩
 have q6:L[k].d.kind≠6:=fun e=> q69 (.inl e)
 have q9:L[k].d.kind≠9:=fun e=> q69 (.inr e)
 clear q69
 ·have HD0:=Fs (HF0.out.d0 q3 q7 q6 q9)
  have hb3:(L[k].d.kind==3)=false:=by simp [q3]
  have hb7:(L[k].d.kind==7)=false:=by simp [q7]
  have hb6:(L[k].d.kind==6)=false:=by simp [q6]
  have hb9:(L[k].d.kind==9)=false:=by simp [q9]
  clear q3 q7 q6 q9
  obtain ⟨x,hxv,hxd,hxo⟩:=Qg.done (w:=w) (Qg.mk0 (w:=W1) (lo:=w.heap.size+3) (o:=w.heap.size+2) (vb:= .slice none 0 0) (vi:= .slice none 0 0) (b:= []) (World.ownsRow_nil _ _ _ _) (World.ownsRow_nil _ _ _ _) (fun e=> by cases e) (fun e=> by cases e) (fun g e=> by cases e)) (show w.heap.size+1 < w.heap.size+3 by omega) (by omega) (0)
  have hxs:x.d=Jw (L.map RM.d) k:=by rw [hxd];rw [HD0.out];rfl
  have Kq:=KV.out
  obtain ⟨⟨q0,q1,q2⟩,g0,g1,g2⟩:=Kq.c3
  obtain ⟨⟨z0,z1,z2⟩, -⟩:=(Kq.put3 (.int .i64 0) (.slice none 0 0) (.slice none 0 0)).c3
  have HF:=Fs (Ft hxv (Ft hxo (Ft hxs (Xe (H1.out) (show w.heap.size≤w.heap.size+1 by omega) (.int .i64 0) (.slice none 0 0) (.slice none 0 0)))))
  clear Kq hxv hxd hxo hxs
  go_wp2
  exact bodyPost_ret (v:= .agg #[.int .i64 0, .slice none 0 0, .slice none 0 0]) (by simp [results,results66,go_sem,z0,z1,z2]) rfl ⟨x,by rw [HF.out.1],HF.out.2.1,HF.out.2.2.1,HF.out.2.2.2⟩
theorem Gt (vD:Value) (L:List RM) (k:Nat) (B:Nat) (w:World) (h:Qz w B vD L) (hB:B≤w.heap.size) (ok:∀r∈L,r.d.ok) (sm:∀r∈L,r.d.small 1048576) (hD:Ud (L.map RM.d)) (h9:L.length≤9) (hk:k < L.length):
  Calls prog 43 #[.agg #[vD], .int .i64 k] w (DvE (L.map RM.d) k w):=by
 have hlm:(L.map RM.d).length=L.length:=List.length_map ..
 have hkn:Qd (L.map RM.d) k=true:=by
  unfold Qd
  rw [hD.valid (by rw [hlm];omega) (by rw [hlm];omega),Bool.and_true]
  exact Jv.2 (by omega)
 have hK:∀W,Below w.heap.size w W→Calls prog 44 #[.agg #[vD], .int .i64 k] W fun e w'=> e= .returned (.bool true)∧Below W.heap.size W w':=fun W hw=> by
  have:=Rg vD L k B W (h.below (hw.mono hB)) (by have:=hw.size;omega) ok sm
  rwa [hkn] at this
 have hR:∀W,Below w.heap.size w W→Calls prog 66 #[.agg #[vD], .int .i64 k] W (DvE (L.map RM.d) k W):=fun W hw=>
  l9Dflt_any L hD h9 k hk vD B W (h.below (hw.mono hB)) (by have:=hw.size;omega)
 obtain ⟨A,c,rfl,hc,hm, -⟩:=h.open_
 have HK:=Fs hK
 have HR:=Fs hR
 clear hK hR h ok sm hkn hlm hD
 obtain ⟨W0,hW0⟩:∃W0,W0=(w.alloc (.cells #[.slice A L.length c] 26)).alloc (.cells #[.int .i64 0, .slice none 0 0, .slice none 0 0] 29):=⟨_,rfl⟩
 have hb0:Below w.heap.size w W0:=by rw [hW0];exact ((Fv w.heap.size w).alloc (Fu _) _).alloc (by simp) _
 have Kd:Zo W0 w.heap.size 26 #[.slice A L.length c]:=by rw [hW0];exact (Zo.new w _ _).alloc _
 have Kv:Zo W0 (w.heap.size+1) 29 #[.int .i64 0, .slice none 0 0, .slice none 0 0]:=by
  rw [hW0]
  have:=Zo.new (w.alloc (.cells #[.slice A L.length c] 26)) 29 #[.int .i64 0, .slice none 0 0, .slice none 0 0]
  simpa using this
 have s0:W0.cell? ⟨w.heap.size,0,none⟩=some (.slice A L.length c):=Kd.cell 0 rfl
 have hz0:w.heap.size+1 < W0.heap.size:=Kv.lt
 have KD:=Fs Kd
 have KV:=Fs Kv
 have HB0:=Fs hb0
 clear Kd Kv hb0
 go_enter func43,ntmps43
 go_upto_region 1 with fail
 rw [←hW0]
 clear hW0
 go_wp2_with fail
 refine (HK.out _ HB0.out).mono ?_
 rintro e w1 ⟨rfl,bel⟩
 have s0:w1.cell? ⟨w.heap.size,0,none⟩=some (.slice A L.length c):=(KD.out.below bel).cell 0 rfl
 have hz1:=bel.size
 have H1:=Fs (Ft bel (Zb bel HB0.out))
 clear bel
 go_wp2_with fail
 refine (HR.out _ H1.out.2).mono ?_
 rintro e5 w5 ⟨x,rfl,hxo,hxs,bel⟩
 obtain ⟨A5,c5,e5, -⟩:=hxo.own.rd.bytes.open_
 obtain ⟨A6,c6,e6, -⟩:=hxo.own.rd.its.open_
 unfold Qs
 rw [e5,e6]
 have bq5:=Zb bel H1.out.1
 have Kq:=KV.out.below bq5
 obtain ⟨⟨q0,q1,q2⟩,g0,g1,g2⟩:=Kq.c3
 obtain ⟨⟨z0,z1,z2⟩, -⟩:=(Kq.put3 (.int .i64 x.n) (.slice A5 x.b.length c5) (.slice A6 x.items.length c6)).c3
 have hfo:Ug x w.heap.size (((w5.setCell ⟨w.heap.size+1,0,none⟩ (.int .i64 x.n)).setCell ⟨w.heap.size+1,1,none⟩ (.slice A5 x.b.length c5)).setCell ⟨w.heap.size+1,2,none⟩ (.slice A6 x.items.length c6)).heap.size (((w5.setCell ⟨w.heap.size+1,0,none⟩ (.int .i64 x.n)).setCell ⟨w.heap.size+1,1,none⟩ (.slice A5 x.b.length c5)).setCell ⟨w.heap.size+1,2,none⟩ (.slice A6 x.items.length c6)):=
  ⟨(hxo.own.keep fun g hg=> by
    have h1:=(hxo.rng g hg).1
    rw [Below.heap_setCell _ _ _ g (by show g≠w.heap.size+1;omega),Below.heap_setCell _ _ _ g (by show g≠w.heap.size+1;omega),Below.heap_setCell _ _ _ g (by show g≠w.heap.size+1;omega)]).base (by omega),hxo.nd,fun g hg=> by have h1:=hxo.rng g hg;simp;omega⟩
 have HF:=Fs (Ft hfo (Ft hxs (Ft (Xe (Zb bq5 HB0.out) (show w.heap.size≤w.heap.size+1 by omega) (.int .i64 x.n) (.slice A5 x.b.length c5) (.slice A6 x.items.length c6)) (Ft e5 e6))))
 clear Kq bel bq5 hxo hxs hfo e5 e6 s0
 go_wp2
 exact bodyPost_ret (v:= .agg #[.int .i64 x.n, .slice A5 x.b.length c5, .slice A6 x.items.length c6]) (by simp [results,results43,go_sem,z0,z1,z2]) rfl ⟨x,by unfold Qs;rw [HF.out.2.2.2.1,HF.out.2.2.2.2],HF.out.1,HF.out.2.1,HF.out.2.2.1⟩
theorem Gu (L:List RM) (hD:Ud (L.map RM.d)) (h9:L.length≤9) (k:Nat):k < L.length→DvC 42 L k:=by
 induction k using Nat.strongRecOn with
 |ind k ih=>
 intro hk vD B w h hB
 obtain ⟨i0,hi0,hz0,hz1,hz2⟩:=info_parts info_value
 have hf0:=dvK hD h9 hk
 have HF0:=Fs hf0
 have hIH:∀q,q < k→∀W,Below w.heap.size w W→Calls prog 42 #[.agg #[vD], .int .i64 q] W (DvE (L.map RM.d) q W):=fun q hq W hw=> ih q hq (by omega) vD B W (h.below (hw.mono hB)) (by have:=hw.size;omega)
 have hKC:∀j (hj:j < L[k].d.kids.length),∃(q bk ok:Nat) (A5:Option Addr) (c5:Nat),L[k].vk= .slice A5 L[k].d.kids.length c5∧A5=some ⟨bk,ok,none⟩∧bk < B∧q < k∧L[k].d.kids[j]=q∧∀W,Below w.heap.size w W→W.cell? ⟨bk,ok+j,none⟩=some (.int .i64 q):=fun j hj=> by
  obtain ⟨A5,c5,e5, -, -,hc5⟩:=(h.2 _ (Fw hk)).k.one
  obtain ⟨bk,ok,e6,hbk,hc6⟩:=hc5 j hj
  have hx:=hf0.kids _ (Fw hj)
  obtain ⟨q,hq⟩:=Int.eq_ofNat_of_zero_le hx.1
  exact ⟨q,bk,ok,A5,c5,e5,e6,hbk,by omega,hq,fun W hw=> by rw [←hq];exact Zc hc6 (hw.mono hB) hbk⟩
 have hTG:∀hj:0 < L[k].d.tags.length,∃(bt ot:Nat) (A5:Option Addr) (c5:Nat) (t:Int),L[k].vt= .slice A5 L[k].d.tags.length c5∧A5=some ⟨bt,ot,none⟩∧bt < B∧L[k].d.tags[0]=t∧∀W,Below w.heap.size w W→W.cell? ⟨bt,ot,none⟩=some (.int .i64 t):=fun hj=> by
  obtain ⟨A5,c5,e5, -, -,hc5⟩:=(h.2 _ (Fw hk)).t.one
  obtain ⟨bk,ok,e6,hbk,hc6⟩:=hc5 0 hj
  exact ⟨bk,ok,A5,c5,_,e5,e6,hbk,rfl,fun W hw=> Zc hc6 (hw.mono hB) hbk⟩
 obtain ⟨A,c,rfl,hc,hm, -⟩:=h.open_
 obtain ⟨b0,off,A1,c1,A2,c2,A3,c3,A4,c4,rfl,hbB,e1,e2,e3,e4,m1,m2,m3,m4,hcell⟩:=Zw h k hk
 rw [e4] at hKC
 rw [e3] at hTG
 have HIH:=Fs hIH
 have HKC:=Fs hKC
 have HTG:=Fs hTG
 unfold maxLen at hm m3 m4
 clear hIH hKC hTG h ih hf0 e1 e2 e3 e4 hD
 obtain ⟨W0,hW0⟩:∃W0,W0=(w.alloc (.cells #[.slice (some ⟨b0,off,none⟩) L.length c] 26)).alloc (.cells #[.int .i64 0, .slice none 0 0, .slice none 0 0] 29):=⟨_,rfl⟩
 have hb0:Below w.heap.size w W0:=by rw [hW0];exact ((Fv w.heap.size w).alloc (Fu _) _).alloc (by simp) _
 have Kd:Zo W0 w.heap.size 26 #[.slice (some ⟨b0,off,none⟩) L.length c]:=by rw [hW0];exact (Zo.new w _ _).alloc _
 have Kv:Zo W0 (w.heap.size+1) 29 #[.int .i64 0, .slice none 0 0, .slice none 0 0]:=by
  rw [hW0]
  have:=Zo.new (w.alloc (.cells #[.slice (some ⟨b0,off,none⟩) L.length c] 26)) 29 #[.int .i64 0, .slice none 0 0, .slice none 0 0]
  simpa using this
 have s0:W0.cell? ⟨w.heap.size,0,none⟩=some (.slice (some ⟨b0,off,none⟩) L.length c):=Kd.cell 0 rfl
 obtain ⟨x0,x1,x2,x3,x4,x5,x6,x7⟩:=hcell W0 (Zu hb0 hB)
 have hbx:b0 < w.heap.size:=by omega
 have hz0':W0.heap.size≤w.heap.size+2:=by rw [hW0];simp
 have hz0'':w.heap.size+2≤W0.heap.size:=by rw [hW0];simp
 clear hcell
 go_enter func42,ntmps42
 go_upto_region 1 with fail
 rw [←hW0]
 clear hW0
 obtain ⟨W1,hW1⟩:∃W1,W1=W0.alloc (.cells #[.string L[k].d.name, .int .i64 L[k].d.kind, .int .i64 L[k].d.size, .bool L[k].d.little, .slice A1 L[k].d.bytes.length c1, .slice A2 L[k].d.names.length c2, .slice A3 L[k].d.tags.length c3, .slice A4 L[k].d.kids.length c4] 50):=⟨_,rfl⟩
 have h01:Below W0.heap.size W0 W1:=by rw [hW1];exact (Fv _ _).alloc (Fu _) _
 have Kr:Zo W1 W0.heap.size 50 #[.string L[k].d.name, .int .i64 L[k].d.kind, .int .i64 L[k].d.size, .bool L[k].d.little, .slice A1 L[k].d.bytes.length c1, .slice A2 L[k].d.names.length c2, .slice A3 L[k].d.tags.length c3, .slice A4 L[k].d.kids.length c4]:=by rw [hW1];exact Zo.new W0 _ _
 have hz1'':W1.heap.size≤w.heap.size+3:=by rw [hW1];simp;omega
 have H1:=Fs (Zb h01 hb0)
 have KD:=Fs (Kd.below h01)
 have KV:=Fs (Kv.below h01)
 have KR:=Fs Kr
 have hz1':w.heap.size+3≤W1.heap.size:=by have:=Kr.lt;omega
 clear Kd Kv h01 hb0
 go_upto_region 2 with fail
 rw [←hW1]
 clear hW1 s0 x0 x1 x2 x3 x4 x5 x6 x7
 have s0:W1.cell? ⟨w.heap.size,0,none⟩=some (.slice (some ⟨b0,off,none⟩) L.length c):=KD.out.cell 0 rfl
 obtain ⟨⟨t0,t1,t2,t3,t4,t5,t6,t7⟩, -⟩:=Kr.c8
 clear Kr
 by_cases q3:L[k].d.kind=3
 ·have HD3:=Fs (HF0.out.d3 q3)
  rw [q3] at t1
  clear q3
  have hrl:=HF0.out.size
  obtain ⟨s,hs⟩:=Int.eq_ofNat_of_zero_le hrl.1
  rw [hs] at t2 hrl HD3
  clear hs
  obtain ⟨i1,hj0,hy0,hy1,hy2⟩:=info_parts info_u8
  go_wp2_with (at_make;refine wpList_make_full _ rfl _ _ 22 rfl (w.heap.size+3) 5 i1 (.int .u8 0) 1 underlying22 hj0 hy0 hy1 _ _ _ _ s rfl rfl rfl rfl (by rw [hy2];omega) (by unfold maxLen;omega) (by exact hz1') ?_;intro w5 hown hg;have bel:Below W1.heap.size W1 w5:=Ju hg (Fu _) (by intro q hq;cases hq);have hown2:=Gg hown;have HX:=Fs (Qg.done (w:=w) (g:=w.heap.size+1) (Qg.mk0 (o:=w.heap.size+2) hown2 (World.ownsRow_nil _ _ _ _) (fun e=> by have e2:W1.heap.size=w.heap.size+2:=Fz e;omega) (fun e=> by cases e) (fun g e=> by cases e)) (by omega) (by omega) 0);have Kq:=KV.out.below bel;obtain ⟨⟨q0,q1,q2⟩,g0,g1,g2⟩:=Kq.c3;obtain ⟨⟨z0,z1,z2⟩, -⟩:=(Kq.put3 (.int .i64 0) (.slice (some ⟨W1.heap.size,0,none⟩) s s) (.slice none 0 0)).c3;have HB5:=Fs (Xe (Zb bel H1.out) (show w.heap.size≤w.heap.size+1 by omega) (.int .i64 0) (.slice (some ⟨W1.heap.size,0,none⟩) s s) (.slice none 0 0));clear hown hown2 hg bel Kq)
  obtain ⟨x,hxv,hxd,hxo⟩:=HX.out
  exact bodyPost_ret (v:= .agg #[.int .i64 0, .slice (some ⟨W1.heap.size,0,none⟩) s s, .slice none 0 0]) (by simp [results,results42,go_sem,z0,z1,z2]) rfl ⟨x,by rw [hxv],hxo,by rw [hxd,HD3.out,List.map_nil];rfl,HB5.out⟩
 by_cases q6:L[k].d.kind=6
 ·skip
  have HDS:=Fs (HF0.out.ds (by omega))
  have HKL:=Fs (show L[k].d.kids.length≤4 from HF0.out.few)
  clear HTG
  obtain ⟨W2,hW2⟩:∃W2,W2=W1.alloc (.cells #[.int .i64 0, .slice none 0 0, .slice none 0 0] 29):=⟨_,rfl⟩
  have h12:Below W1.heap.size W1 W2:=by rw [hW2];exact (Fv _ _).alloc (Fu _) _
  have kx0:Zo W2 W1.heap.size 29 #[.int .i64 0, .slice none 0 0, .slice none 0 0]:=by rw [hW2];exact Zo.new W1 _ _
  have HS:=Fs (Ft h12 kx0)
  rw [q6] at t1
  clear q3 q6
  go_upto_region 7 with fail
  rw [←hW2]
  clear hW2 h12 kx0 s0 t0 t1 t2 t3 t4 t5 t6 t7
  obtain ⟨⟨t0,t1,t2,t3,t4,t5,t6,t7⟩, -⟩:=(KR.out.below HS.out.1).c8
  go_wp2
  go_loopw [8,28] (fun _ jv wr=> ∃(Ai:Option Addr) (ci:Nat) (Dl:List VM),Dl.length≤L[k].d.kids.length∧jv= .int .i64 Dl.length∧Zo wr W1.heap.size 29 #[.int .i64 0, .slice none 0 0, .slice Ai Dl.length ci]∧Hid (Qg wr (W1.heap.size+1) W1.heap.size [] (.slice none 0 0) (.slice Ai Dl.length ci) Dl)∧Hid (Dl.map VM.d=(L[k].d.kids.take Dl.length).map fun q=> Jw (L.map RM.d) q.toNat)∧Below W1.heap.size W1 wr) (fun _ jv _=> L[k].d.kids.length - (intOf jv).toNat)
  case atStart=> exact ⟨none,0, [],Eb _,rfl,HS.out.2,Fs (Qg.mk0 (World.ownsRow_nil _ _ _ _) (World.ownsRow_nil _ _ _ _) (fun e=> by cases e) (fun e=> by cases e) (fun g e=> by cases e)),Fs rfl,HS.out.1⟩
  case round=>
   obtain ⟨Ai,ci,Dl,hj,rfl,hkx,HG,HSZ,hbl⟩:=hrel
   have hsz:=hbl.size
   have hxl:=hkx.lt
   have s0:wr.cell? ⟨w.heap.size,0,none⟩=some (.slice (some ⟨b0,off,none⟩) L.length c):=(KD.out.below hbl).cell 0 rfl
   obtain ⟨⟨t0,t1,t2,t3,t4,t5,t6,t7⟩, -⟩:=(KR.out.below hbl).c8
   obtain ⟨⟨x0,x1,x2⟩, -⟩:=hkx.c3
   have HB:=Fs (Ft hbl (Ft (Zb hbl H1.out) hkx))
   clear hbl hkx
   by_cases hlt:Dl.length < L[k].d.kids.length
   ·obtain ⟨q,bk,ok,A5,c5,e5,e6,hbk,hqk,hqe,hkc⟩:=HKC.out Dl.length hlt
    simp only [Value.slice.injEq] at e5
    obtain ⟨rfl, -,rfl⟩:=e5
    subst e6
    have hk1:=hkc wr HB.out.2.1
    have hbkw:bk < w.heap.size:=by omega
    have HI:=Fs (HIH.out q hqk)
    have HQE:=Fs hqe
    have HLT:=Fs HG.out.row.lt
    have hkl4:=HKL.out
    have bq:=(Fv wr.heap.size wr).drew
    clear hkc hqe
    go_wp2_with fail
    refine Qr (S:=(fun w9=> w9.cell? ⟨w.heap.size,0,none⟩=some (.slice (some ⟨b0,off,none⟩) L.length c)∧w9.cell? ⟨W1.heap.size,2,none⟩=some (.slice Ai Dl.length ci))) 8 (by kernel_rfl) ?_ (fun hHeld=> ?_)
    ·(try dsimp only);exact ⟨s0,x2⟩
    refine Zt 0 (some 32) hHeld _ ?_;try go_frame
    refine Zt 1 (some 33) hHeld _ ?_;try go_frame
    refine Zt 2 (some 34) hHeld _ ?_;try go_frame
    refine Zt 3 (some 35) hHeld _ ?_;try go_frame
    refine Qw 4 (fun K hK=> ?_)
    go_simp
    refine (HI.out _ (Zb bq HB.out.2.1)).mono ?_;rintro e5 w5 ⟨x,rfl,hxo,hxs,bel⟩;obtain ⟨A5,c5,e5, -⟩:=hxo.own.rd.bytes.open_;obtain ⟨A6,c6,e6, -⟩:=hxo.own.rd.its.open_;unfold Qs;rw [e5,e6];have hz5:=bel.size;have HG5:=Fs (Qg.below HG.out (Zb bel bq));have bq:=Zb bel bq;have HXO:=Fs (Ft hxo (Ft hxs (Ft e5 e6)));clear hxo hxs e5 e6
    (try go_wp2_with fail)
    refine hK.out _ _ ?_ (fun hHeld=> ?_)
    ·(try dsimp only);first|exact ⟨Jh hg2 (Ec bq s0) (fun e=> by have:=HLT.out _ e;omega),Jh hg2 (Ec bq x2) (fun e=> by have:=HLT.out _ e;omega)⟩|exact ⟨Ec bq s0,Ec bq x2⟩
    clear hK K
    try go_frame
    refine Qw 5 (fun K hK=> ?_)
    (try go_simp)
    obtain ⟨X3,hX3⟩:∃V,V=w5.alloc (.cells #[.int .i64 x.n, .slice A5 x.b.length c5, .slice A6 x.items.length c6] 29):=⟨_,rfl⟩;rw [←hX3];have hbl:Below w5.heap.size w5 X3:=(by rw [hX3];exact (Fv _ _).alloc (Fu _) _);have hsl:=Fs (show Sl X3 (w5.heap.size+1) 3 (.slice (some ⟨w5.heap.size,0,none⟩) 1 1) 1 (Ze x) by rw [hX3];exact Tj (xs:=Ze x) (by unfold Ze;rw [HXO.out.2.2.1,HXO.out.2.2.2];exact Zo.new w5 _ _) rfl (Nat.lt_succ_self _));have bq:=Zb hbl bq;have HBL:=Fs hbl;have hz3:=bq.size;clear hX3 hbl
    refine hK.out _ _ ?_ (fun hHeld=> ?_)
    ·(try dsimp only);first|exact ⟨Jh hg2 (Ec bq s0) (fun e=> by have:=HLT.out _ e;omega),Jh hg2 (Ec bq x2) (fun e=> by have:=HLT.out _ e;omega)⟩|exact ⟨Ec bq s0,Ec bq x2⟩
    clear hK K
    try go_frame
    refine Qw 6 (fun K hK=> ?_)
    refine Je _ (.tmp 33) (.tmp 37) 27 rfl (W1.heap.size+1) 29 i0 (.agg #[.int .i64 0, .slice none 0 0, .slice none 0 0]) 3 56 underlying27 hi0 hz0 hz1 hz2 rfl (by decide) _ Dl.length (Dl.flatMap Ze) rfl (by exact (Qg.below HG5.out HBL.out).row) _ 1 _ (Ze x) rfl (by exact hsl.out) (Yl HXO.out.2.2.1 HXO.out.2.2.2) (by omega) (by unfold maxLen;omega) (by omega) ?_;intro v2 w6 own2 hg2 hv2;obtain ⟨An,cn,rfl⟩:=Zq own2;have kx6:=Zo.row (HB.out.2.2.below bq) hg2 (fun e=> by have:=HLT.out _ e;omega);obtain ⟨⟨y0,y1,y2⟩,f0,f1,f2⟩:=kx6.c3;have HG6:=Fs (Qg.snoc HG5.out HXO.out.1 (fun g hg'=> (List.mem_cons.1 hg').elim (fun e=> by rw [e];exact hxl) (fun h=> (Qg.lt HG.out g h).2)) hz5 (show W1.heap.size+1≤wr.heap.size by omega) HBL.out own2 hg2 hv2);have hb6:Below W1.heap.size W1 w6:=(Zb bq HB.out.1).grown hg2 (by omega) (fun q e=> by have:=HLT.out q e;omega);have H6:=Fs (Ft kx6 hb6);clear own2 hv2 kx6 hb6
    refine hK.out _ _ ?_ (fun hHeld=> ?_)
    ·(try dsimp only);first|exact ⟨Jh hg2 (Ec bq s0) (fun e=> by have:=HLT.out _ e;omega),Jh hg2 (Ec bq x2) (fun e=> by have:=HLT.out _ e;omega)⟩|exact ⟨Ec bq s0,Ec bq x2⟩
    clear hK K
    try go_frame
    refine Zt 7 (some 39) hHeld _ ?_;try go_frame
    refine Uz (fun K hK=> ?_)
    (try go_simp)
    go_simp
    refine hK.out _ _ ?_
    clear hK K
    try go_frame
    refine Js (by kernel_rfl) ?_ _
    have H7:=Fs (Ft (H6.out.1.set 2 (.slice An (Dl.length+1) cn)) (Ft (Qg.store (i:=2) HG6.out (.slice An (Dl.length+1) cn)) (H6.out.2.setCell (p:=⟨W1.heap.size,2,none⟩) (Fu _) (.slice An (Dl.length+1) cn))))
    have HSZ2:=Fs (show (Dl++ [x]).map VM.d=(L[k].d.kids.take (Dl.length+1)).map fun q=> Jw (L.map RM.d) q.toNat by
     rw [List.map_append,HSZ.out,List.take_add_one,List.getElem?_eq_getElem hlt,List.map_append,HQE.out]
     simp [HXO.out.2.1])
    clear bq s0 t0 t1 t2 t3 t4 t5 t6 t7 x0 x1 x2 y0 y1 y2 f0 f1 f2 hk1 hg2 hsl
    go_wp2
    go_roundw
    case rel=> exact ⟨An,cn,Dl++ [x],by rw [List.length_append,List.length_singleton];omega,by rw [List.length_append,List.length_singleton];go_num,by rw [List.length_append,List.length_singleton];exact H7.out.1,Fs (by rw [List.length_append,List.length_singleton];exact H7.out.2.1),Fs (by rw [List.length_append,List.length_singleton];exact HSZ2.out),H7.out.2.2⟩
    case measure=> simp [intOf];omega
   ·have hje:Dl.length=L[k].d.kids.length:=by omega
    clear s0 t0 t1 t2 t3 t4 t5 t6
    obtain ⟨x,hxv,hxd,hxo⟩:=Qg.done (w:=w) (g:=w.heap.size+1) HG.out (by omega) (by omega) 0
    have hxs:x.d=Jw (L.map RM.d) k:=by rw [hxd,HDS.out,HSZ.out,hje,List.take_length]
    have Kq:=KV.out.below HB.out.1
    obtain ⟨⟨q0,q1,q2⟩,g0,g1,g2⟩:=Kq.c3
    obtain ⟨⟨z0,z1,z2⟩, -⟩:=(Kq.put3 (.int .i64 0) (.slice none 0 0) (.slice Ai Dl.length ci)).c3
    have HF:=Fs (Ft hxv (Ft hxo (Ft hxs (Xe HB.out.2.1 (show w.heap.size≤w.heap.size+1 by omega) (.int .i64 0) (.slice none 0 0) (.slice Ai Dl.length ci)))))
    have hnl:¬(Dl.length:Int) < (L[k].d.kids.length:Int):=by omega
    clear Kq hxv hxd hxo hxs hje
    go_wp2
    exact bodyPost_ret (v:= .agg #[.int .i64 0, .slice none 0 0, .slice Ai Dl.length ci]) (by simp [results,results42,go_sem,z0,z1,z2]) rfl ⟨x,by rw [HF.out.1],HF.out.2.1,HF.out.2.2.1,HF.out.2.2.2⟩
 by_cases q7:L[k].d.kind=7
 ·obtain ⟨ht0,hk0,hd7⟩:=HF0.out.d7 q7
  obtain ⟨q,bk,ok,A5,c5,e5,e6,hbk,hqk,hqe,hkc⟩:=HKC.out 1 (by omega)
  simp only [Value.slice.injEq] at e5
  obtain ⟨rfl, -,rfl⟩:=e5
  subst e6
  obtain ⟨bt,ot,A6,c6,tg,e7,e8,hbt,hte,htc⟩:=HTG.out (by omega)
  simp only [Value.slice.injEq] at e7
  obtain ⟨rfl, -,rfl⟩:=e7
  subst e8
  have ht1:=htc W1 H1.out
  have hbtw:bt < w.heap.size:=by omega
  have htl:0 < L[k].d.tags.length:=by omega
  have htl':(0:Int) < (L[k].d.tags.length:Int):=by omega
  have HTT:=Fs htc
  have hk1:=hkc W1 H1.out
  have hbkw:bk < w.heap.size:=by omega
  have hkl:1 < L[k].d.kids.length:=by omega
  have hkl':(1:Int) < (L[k].d.kids.length:Int):=by omega
  have HEQ:=Fs (show Jw (L.map RM.d) k= .mk tg [] [Jw (L.map RM.d) q] by rw [hd7 q hqe,hte])
  rw [q7] at t1
  have HI:=Fs (HIH.out q hqk)
  have HKK:=Fs hkc
  have bq:=(Fv W1.heap.size W1).drew
  clear q3 q7 hd7 hte hqe htc q6 hkc HKC HTG HIH
  go_wp2_with fail
  refine wp_region_held_drew (S:=(fun w9=> w9.cell? ⟨w.heap.size,0,none⟩=some (.slice (some ⟨b0,off,none⟩) L.length c)∧w9.cell? ⟨W0.heap.size,6,none⟩=some (.slice (some ⟨bt,ot,none⟩) L[k].d.tags.length c3)∧w9.cell? ⟨W0.heap.size,7,none⟩=some (.slice (some ⟨bk,ok,none⟩) L[k].d.kids.length c4)∧w9.cell? ⟨bt,ot,none⟩=some (.int .i64 tg)∧w9.cell? ⟨bk,ok+1,none⟩=some (.int .i64 q))) (by kernel_rfl) ?_ (fun hHeld=> ?_)
  ·(try dsimp only);exact ⟨s0,t6,t7,ht1,hk1⟩
  refine Za 0 (some 44) hHeld _ ?_;try go_frame
  refine Za 1 (some 45) hHeld _ ?_;try go_frame
  refine Za 2 (some 46) hHeld _ ?_;try go_frame
  refine Za 3 (some 47) hHeld _ ?_;try go_frame
  refine Za 4 (some 48) hHeld _ ?_;try go_frame
  refine Za 5 (some 49) hHeld _ ?_;try go_frame
  refine Za 6 (some 50) hHeld _ ?_;try go_frame
  refine Za 7 (some 51) hHeld _ ?_;try go_frame
  refine Za 8 (some 52) hHeld _ ?_;try go_frame
  refine Zh 9 (fun K hK=> ?_)
  go_simp
  refine (HI.out _ (Zb bq H1.out)).mono ?_;rintro e5 w5 ⟨x,rfl,hxo,hxs,bel⟩;obtain ⟨A5,c5,e5, -⟩:=hxo.own.rd.bytes.open_;obtain ⟨A6,c6,e6, -⟩:=hxo.own.rd.its.open_;unfold Qs;rw [e5,e6];have hz5:=bq.size;have bq:=Zb bel bq;have HXO:=Fs (Ft hxo (Ft hxs (Ft e5 e6)));clear hxo hxs e5 e6
  (try go_wp2_with fail)
  refine hK.out _ _ ?_ (fun hHeld=> ?_)
  ·(try dsimp only);first|exact ⟨Ec bq s0,Ec bq t6,Ec bq t7,Ec bq ht1,Ec bq hk1⟩|exact ⟨es0,et6,et7,eht,ehk⟩
  clear hK K
  try go_frame
  refine Zh 10 (fun K hK=> ?_)
  (try go_simp)
  obtain ⟨X3,hX3⟩:∃V,V=w5.alloc (.cells #[.int .i64 x.n, .slice A5 x.b.length c5, .slice A6 x.items.length c6] 29):=⟨_,rfl⟩;rw [←hX3];have hbl:Below w5.heap.size w5 X3:=(by rw [hX3];exact (Fv _ _).alloc (Fu _) _);have hbk3:Zo X3 w5.heap.size 29 (Ze x).toArray:=(by rw [hX3];unfold Ze;rw [HXO.out.2.2.1,HXO.out.2.2.2];exact Zo.new w5 _ _);have HG:=Fs (Qg.one hbk3 (HXO.out.1.keep (Xq.of_below hbl 0 0) (.inr (Eb _))) (show w.heap.size+3≤W1.drew.heap.size by exact hz1') hz5 (by have:=bq.size;omega) (show w.heap.size+2 < w.heap.size+3 by omega));have bq:=Zb hbl bq;have Kq:=KV.out.below bq;obtain ⟨⟨q0,q1,q2⟩,g0,g1,g2⟩:=Kq.c3;clear hX3 hbl hbk3
  refine hK.out _ _ ?_ (fun hHeld=> ?_)
  ·(try dsimp only);first|exact ⟨Ec bq s0,Ec bq t6,Ec bq t7,Ec bq ht1,Ec bq hk1⟩|exact ⟨es0,et6,et7,eht,ehk⟩
  clear hK K
  try go_frame
  refine Za 11 (some 55) hHeld _ ?_;try go_frame
  refine Zh 12 (fun K hK=> ?_)
  (try go_simp)
  go_simp;have es0:=((KD.out.below bq).other3 (q:=w.heap.size+1) (by omega) (.int .i64 tg) (.slice none 0 0) (.slice (some ⟨w5.heap.size,0,none⟩) 1 1)).cell 0 rfl;have er:=((KR.out.below bq).other3 (q:=w.heap.size+1) (by omega) (.int .i64 tg) (.slice none 0 0) (.slice (some ⟨w5.heap.size,0,none⟩) 1 1));have et6:=er.cell 6 rfl;have et7:=er.cell 7 rfl;have bw:=Xe (Zb bq H1.out) (show w.heap.size≤w.heap.size+1 by omega) (.int .i64 tg) (.slice none 0 0) (.slice (some ⟨w5.heap.size,0,none⟩) 1 1);have eht:=HTT.out _ bw;have ehk:=HKK.out _ bw;have Kz:=Kq.put3 (.int .i64 tg) (.slice none 0 0) (.slice (some ⟨w5.heap.size,0,none⟩) 1 1)
  refine hK.out _ _ ?_ (fun hHeld=> ?_)
  ·(try dsimp only);first|exact ⟨Ec bq s0,Ec bq t6,Ec bq t7,Ec bq ht1,Ec bq hk1⟩|exact ⟨es0,et6,et7,eht,ehk⟩
  clear hK K
  try go_frame
  refine wpAnyH_done (by kernel_rfl) ?_ _
  obtain ⟨⟨z0,z1,z2⟩, -⟩:=Kz.c3
  obtain ⟨y,hyv,hyd,hyo⟩:=Qg.done (w:=w) (g:=w.heap.size+1) HG.out (by omega) (by omega) tg
  have HF:=Fs (Ft hyv (Ft hyo (Ft (show y.d=Jw (L.map RM.d) k by rw [hyd,HEQ.out,List.map_cons,List.map_nil,HXO.out.2.1]) bw)))
  clear bw bq Kq Kz es0 er et6 eht ht1 et7 ehk s0 t0 t1 t2 t3 t4 t5 t6 t7 hk1 q0 q1 q2 g0 g1 g2 hHeld hyv hyd hyo
  go_wp2
  exact bodyPost_ret (v:= .agg #[.int .i64 tg, .slice none 0 0, .slice (some ⟨w5.heap.size,0,none⟩) 1 1]) (by simp [results,results42,go_sem,z0,z1,z2]) rfl ⟨y,by rw [HF.out.1],HF.out.2.1,HF.out.2.2.1,HF.out.2.2.2⟩
 by_cases q9:L[k].d.kind=9
 ·have hk9:=HF0.out.d9 q9
  have hds:=HF0.out.ds (.inr q9)
  obtain ⟨q,bk,ok,A5,c5,e5,e6,hbk,hqk,hqe,hkc⟩:=HKC.out 0 (by omega)
  simp only [Value.slice.injEq] at e5
  obtain ⟨rfl, -,rfl⟩:=e5
  subst e6
  have hk1:=hkc W1 H1.out
  have hbkw:bk < w.heap.size:=by omega
  have hkl:0 < L[k].d.kids.length:=by omega
  have hkl':(0:Int) < (L[k].d.kids.length:Int):=by omega
  have HEQ:=Fs (show Jw (L.map RM.d) k= .mk 0 [] [Jw (L.map RM.d) q] by
   rw [hds]
   congr 1
   apply List.ext_getElem
   ·rw [List.length_map,hk9];rfl
   ·intro j h1 h2
    have:j=0:=by simp at h2;omega
    subst this
    rw [List.getElem_map,hqe];rfl)
  rw [q9] at t1
  rw [Nat.add_zero] at hk1
  have HI:=Fs (HIH.out q hqk)
  have HKK:=Fs hkc
  have bq:=(Fv W1.heap.size W1).drew
  clear q3 q7 q6 q9 hds hqe hkc HKC HTG HIH
  go_wp2_with fail
  refine wp_region_held_drew (S:=(fun w9=> w9.cell? ⟨w.heap.size,0,none⟩=some (.slice (some ⟨b0,off,none⟩) L.length c)∧w9.cell? ⟨W0.heap.size,7,none⟩=some (.slice (some ⟨bk,ok,none⟩) L[k].d.kids.length c4)∧w9.cell? ⟨bk,ok,none⟩=some (.int .i64 q))) (by kernel_rfl) ?_ (fun hHeld=> ?_)
  ·(try dsimp only);exact ⟨s0,t7,hk1⟩
  refine Za 0 (some 58) hHeld _ ?_;try go_frame
  refine Za 1 (some 59) hHeld _ ?_;try go_frame
  refine Za 2 (some 60) hHeld _ ?_;try go_frame
  refine Za 3 (some 61) hHeld _ ?_;try go_frame
  refine Za 4 (some 62) hHeld _ ?_;try go_frame
  refine Zh 5 (fun K hK=> ?_)
  go_simp
  refine (HI.out _ (Zb bq H1.out)).mono ?_;rintro e5 w5 ⟨x,rfl,hxo,hxs,bel⟩;obtain ⟨A5,c5,e5, -⟩:=hxo.own.rd.bytes.open_;obtain ⟨A6,c6,e6, -⟩:=hxo.own.rd.its.open_;unfold Qs;rw [e5,e6];have hz5:=bq.size;have bq:=Zb bel bq;have HXO:=Fs (Ft hxo (Ft hxs (Ft e5 e6)));clear hxo hxs e5 e6
  (try go_wp2_with fail)
  refine hK.out _ _ ?_ (fun hHeld=> ?_)
  ·(try dsimp only);first|exact ⟨Ec bq s0,Ec bq t7,Ec bq hk1⟩|exact ⟨es0,et7,ehk⟩
  clear hK K
  try go_frame
  refine Zh 6 (fun K hK=> ?_)
  (try go_simp)
  obtain ⟨X3,hX3⟩:∃V,V=w5.alloc (.cells #[.int .i64 x.n, .slice A5 x.b.length c5, .slice A6 x.items.length c6] 29):=⟨_,rfl⟩;rw [←hX3];have hbl:Below w5.heap.size w5 X3:=(by rw [hX3];exact (Fv _ _).alloc (Fu _) _);have hbk3:Zo X3 w5.heap.size 29 (Ze x).toArray:=(by rw [hX3];unfold Ze;rw [HXO.out.2.2.1,HXO.out.2.2.2];exact Zo.new w5 _ _);have HG:=Fs (Qg.one hbk3 (HXO.out.1.keep (Xq.of_below hbl 0 0) (.inr (Eb _))) (show w.heap.size+3≤W1.drew.heap.size by exact hz1') hz5 (by have:=bq.size;omega) (show w.heap.size+2 < w.heap.size+3 by omega));have bq:=Zb hbl bq;have Kq:=KV.out.below bq;obtain ⟨⟨q0,q1,q2⟩,g0,g1,g2⟩:=Kq.c3;clear hX3 hbl hbk3
  refine hK.out _ _ ?_ (fun hHeld=> ?_)
  ·(try dsimp only);first|exact ⟨Ec bq s0,Ec bq t7,Ec bq hk1⟩|exact ⟨es0,et7,ehk⟩
  clear hK K
  try go_frame
  refine Za 7 (some 65) hHeld _ ?_;try go_frame
  refine Zh 8 (fun K hK=> ?_)
  (try go_simp)
  go_simp;have es0:=((KD.out.below bq).other3 (q:=w.heap.size+1) (by omega) (.int .i64 0) (.slice none 0 0) (.slice (some ⟨w5.heap.size,0,none⟩) 1 1)).cell 0 rfl;have er:=((KR.out.below bq).other3 (q:=w.heap.size+1) (by omega) (.int .i64 0) (.slice none 0 0) (.slice (some ⟨w5.heap.size,0,none⟩) 1 1));have et7:=er.cell 7 rfl;have bw:=Xe (Zb bq H1.out) (show w.heap.size≤w.heap.size+1 by omega) (.int .i64 0) (.slice none 0 0) (.slice (some ⟨w5.heap.size,0,none⟩) 1 1);have ehk:=HKK.out _ bw;have Kz:=Kq.put3 (.int .i64 0) (.slice none 0 0) (.slice (some ⟨w5.heap.size,0,none⟩) 1 1)
  refine hK.out _ _ ?_ (fun hHeld=> ?_)
  ·(try dsimp only);first|exact ⟨Ec bq s0,Ec bq t7,Ec bq hk1⟩|exact ⟨es0,et7,ehk⟩
  clear hK K
  try go_frame
  refine wpAnyH_done (by kernel_rfl) ?_ _
  obtain ⟨⟨z0,z1,z2⟩, -⟩:=Kz.c3
  obtain ⟨y,hyv,hyd,hyo⟩:=Qg.done (w:=w) (g:=w.heap.size+1) HG.out (by omega) (by omega) 0
  have HF:=Fs (Ft hyv (Ft hyo (Ft (show y.d=Jw (L.map RM.d) k by rw [hyd,HEQ.out,List.map_cons,List.map_nil,HXO.out.2.1]) bw)))
  clear bw bq Kq Kz es0 er et7 ehk s0 t0 t1 t2 t3 t4 t5 t6 t7 hk1 q0 q1 q2 g0 g1 g2 hHeld hyv hyd hyo
  go_wp2
  exact bodyPost_ret (v:= .agg #[.int .i64 0, .slice none 0 0, .slice (some ⟨w5.heap.size,0,none⟩) 1 1]) (by simp [results,results42,go_sem,z0,z1,z2]) rfl ⟨y,by rw [HF.out.1],HF.out.2.1,HF.out.2.2.1,HF.out.2.2.2⟩
 ·have HD0:=Fs (HF0.out.d0 q3 q7 q6 q9)
  have hb3:(L[k].d.kind==3)=false:=by simp [q3]
  have hb7:(L[k].d.kind==7)=false:=by simp [q7]
  have hb6:(L[k].d.kind==6)=false:=by simp [q6]
  have hb9:(L[k].d.kind==9)=false:=by simp [q9]
  clear q3 q7 q6 q9
  obtain ⟨x,hxv,hxd,hxo⟩:=Qg.done (w:=w) (Qg.mk0 (w:=W1) (lo:=w.heap.size+3) (o:=w.heap.size+2) (vb:= .slice none 0 0) (vi:= .slice none 0 0) (b:= []) (World.ownsRow_nil _ _ _ _) (World.ownsRow_nil _ _ _ _) (fun e=> by cases e) (fun e=> by cases e) (fun g e=> by cases e)) (show w.heap.size+1 < w.heap.size+3 by omega) (by omega) (0)
  have hxs:x.d=Jw (L.map RM.d) k:=by rw [hxd];rw [HD0.out];rfl
  have Kq:=KV.out
  obtain ⟨⟨q0,q1,q2⟩,g0,g1,g2⟩:=Kq.c3
  obtain ⟨⟨z0,z1,z2⟩, -⟩:=(Kq.put3 (.int .i64 0) (.slice none 0 0) (.slice none 0 0)).c3
  have HF:=Fs (Ft hxv (Ft hxo (Ft hxs (Xe (H1.out) (show w.heap.size≤w.heap.size+1 by omega) (.int .i64 0) (.slice none 0 0) (.slice none 0 0)))))
  clear Kq hxv hxd hxo hxs
  go_wp2
  exact bodyPost_ret (v:= .agg #[.int .i64 0, .slice none 0 0, .slice none 0 0]) (by simp [results,results42,go_sem,z0,z1,z2]) rfl ⟨x,by rw [HF.out.1],HF.out.2.1,HF.out.2.2.1,HF.out.2.2.2⟩
end Go.Proofs.YteldgdelmaeokaaGreatDoor
