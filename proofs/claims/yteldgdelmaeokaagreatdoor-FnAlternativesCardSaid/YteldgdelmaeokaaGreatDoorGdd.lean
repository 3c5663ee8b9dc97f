/- Out of DrV, VkS, MkV1, MkV2, MkV3, MkV4: the walks and plain laws that the claim needs. No condition but those that each theorem names. -/
import Derived.Test.YteldgdelmaeokaaGreatDoorGda
import Derived.Test.YteldgdelmaeokaaGreatDoorGn
import Derived.Test.YteldgdelmaeokaaGreatDoorGf
import Derived.IntWalk
import Derived.WalkSpells
import Derived.Deep.RegionHeld3
import Derived.Deep.DeepCutAuto
import Derived.WalkLawsBesides
set_option linter.unusedSimpArgs false
set_option linter.unusedVariables false
set_option maxHeartbeats 4000000
set_option maxRecDepth 100000
namespace Go.Proofs.YteldgdelmaeokaaGreatDoor
open Go.Proofs.Tryz Go.RowKit
theorem mkv {D:List Zi} {k:Nat} (hk:k < D.length) {n:Int} {b:List UInt8} {l:List Zv} (ho:Qh D D[k] n b.length l.length=true) (hi:∀j (hj:j < l.length),Zn D (Qk D[k] n j) l[j]=true):Zn D k (.mk n b l)=true:=by
 rw [Vq]
 unfold Jo
 rw [if_pos (by omega),Int.toNat_natCast,List.getElem?_eq_getElem hk]
 show (Qh D D[k] n b.length l.length && Yb D D[k] n 0 l)=true
 rw [ho,Ra hi]
 rfl
theorem sizes_bd (M:Nat):∀l:List Zv,(∀x∈l,x.size≤M)→Zv.sizes l≤l.length*(1+M)
 | [],_=> by rw [Zv.sizes_nil];omega
 |x::l,h=> by
  have:=sizes_bd M l fun y hy=> h y (by simp [hy])
  have:=h x (by simp)
  rw [Zv.sizes_cons,List.length_cons,Nat.succ_mul]
  omega
def sB (k:Nat):Nat:=9*4 ^ k
theorem Th {j k:Nat} (h:j≤k):sB j≤sB k:=Nat.mul_le_mul_left 9 (Nat.pow_le_pow_right (by omega) h)
theorem sB_pos (k:Nat):9≤sB k:=by have:=Nat.pow_pos (n:=k) (show 0 < 4 by omega);unfold sB;omega
theorem sB_bd {k:Nat} (h:k≤8):sB k≤589824:=Nat.le_trans (Th h) (by decide)
theorem Yk {k:Nat} {n:Int} {b:List UInt8} {l:List Zv} (hb:b.length≤6) (hl:l.length≤3) (hk:l= []∨0 < k) (h:∀x∈l,x.size≤sB (k - 1)):(Zv.mk n b l).size≤sB k:=by
 rw [Zv.size_mk]
 rcases hk with rfl|hk
 ·have:=sB_pos k
  rw [Zv.sizes_nil]
  omega
 ·have h1:=sizes_bd _ l h
  have h2:l.length*(1+sB (k - 1))≤3*(1+sB (k - 1)):=Nat.mul_le_mul_right _ hl
  have h3:sB k=4*sB (k - 1):=by
   obtain ⟨j,rfl⟩:∃j,k=j+1:=⟨k - 1,by omega⟩
   unfold sB
   rw [Nat.add_sub_cancel,Nat.pow_succ]
   omega
  have h4:=sB_pos (k - 1)
  omega
theorem Gj {D:List Zi} {i:Int} (h:0 < Zr D i):255≤Zr D i:=by
 unfold Zr at h ⊢
 cases hr:Jo D i with
 |none=> rw [hr] at h;exact absurd h (by decide)
 |some r=>
  rw [hr] at h
  have h:0 < Yh r:=h
  show 255≤Yh r
  unfold Yh at h ⊢
  split at h
  ·rename_i hc
   rw [if_pos hc]
   have:r.size=1∨r.size=2∨r.size=3∨r.size=4:=by omega
   unfold Tb
   rcases this with e|e|e|e <;> rw [e] <;> decide
  ·omega
section
variable {D:List Zi} {k:Nat}
structure Lk (D:List Zi) (k:Nat) (hk:k < D.length):Prop where
 good:Zp D D[k]=true
 kids:∀a∈D[k].kids,0≤a∧a < (k:Int)
 lens:D[k].bytes.length≤3∧D[k].names.length≤3∧D[k].tags.length≤3∧D[k].kids.length≤4
 size:0≤D[k].size∧D[k].size≤4
 kind:1≤D[k].kind∧D[k].kind≤10
theorem Ud.ruK (h:Ud D) (hl:D.length≤9) (hk:k < D.length):Lk D k hk:=by
 have hr:=h k hk
 have hlt:(D.take k).length=k:=by rw [List.length_take];omega
 refine ⟨Yc (h.good hl k hk),fun a ha=> ?_,hr.lens,hr.size,hr.kind⟩
 have:=hr.kids a ha
 rwa [hlt] at this
theorem Lk.kidN {hk:k < D.length} (h:Lk D k hk) {j:Nat} (hj:j < D[k].kids.length):∃q:Nat,D[k].kids[j]=q∧q < k:=by
 have:=h.kids _ (Fw hj)
 exact ⟨(D[k].kids[j]).toNat,by omega,by omega⟩
theorem val1 {hk:k < D.length} (h:Lk D k hk) (e:D[k].kind=1):1≤D[k].size∧D[k].size≤4∧∀n:Int,0≤n→n < Tb D[k].size→Zn D k (.mk n [] [])=true:=by
 have hg:=h.good
 unfold Zp at hg
 rw [if_pos e] at hg
 simp only [Bool.and_eq_true] at hg
 have hs:=Jv.1 hg.2.1
 refine ⟨hs.1,hs.2,fun n h0 h1=> mkv hk ?_ (fun j hj=> absurd hj (by simp))⟩
 unfold Qh
 rw [if_pos e]
 have:Xs n 0 (Tb D[k].size - 1)=true:=Jv.2 (by omega)
 simp [this]
theorem val2 {hk:k < D.length} (e:D[k].kind=2):Zn D k (.mk 0 [] [])=true:=mkv hk (by unfold Qh;simp [e]) (fun j hj=> absurd hj (by simp))
theorem val3 {hk:k < D.length} (h:Lk D k hk) (e:D[k].kind=3):0≤D[k].size∧∀b:List UInt8,(b.length:Int)=D[k].size→Zn D k (.mk 0 b [])=true:=
 ⟨h.size.1,fun b hb=> mkv hk (by unfold Qh;simp [e,hb]) (fun j hj=> absurd hj (by simp))⟩
theorem val4 {hk:k < D.length} (h:Lk D k hk) (e:D[k].kind=4):∀b:List UInt8,b.length≤6→Zn D k (.mk 0 b [])=true:=fun b hb=> by
 have hg:=h.good
 unfold Zp at hg
 simp only [e] at hg
 simp at hg
 have hl:=Gj hg.2
 refine mkv hk ?_ (fun j hj=> absurd hj (by simp))
 unfold Qh
 simp [e]
 omega
theorem val10 {hk:k < D.length} (h:Lk D k hk) (e:D[k].kind=10):D[k].bytes.length=1∧∀b:List UInt8,b.length≤6→Zn D k (.mk 0 b [])=true:=by
 have hg:=h.good
 unfold Zp at hg
 simp only [e] at hg
 simp at hg
 refine ⟨by omega,fun b hb=> mkv hk ?_ (fun j hj=> absurd hj (by simp))⟩
 unfold Qh
 simp [e]
 omega
theorem val5 {hk:k < D.length} (h:Lk D k hk) (e:D[k].kind=5):∃h2:1 < D[k].kids.length,∀l:List Zv,l.length≤3→(∀x∈l,Zn D D[k].kids[1] x=true)→Zn D k (.mk 0 [] l)=true:=by
 have hg:=h.good
 unfold Zp Zg at hg
 simp only [e] at hg
 simp at hg
 have h2:1 < D[k].kids.length:=by omega
 refine ⟨h2,fun l hl hx=> mkv hk ?_ fun j hj=> ?_⟩
 ·have hlim:=Gj hg.2
  unfold Qh
  simp [e]
  omega
 ·unfold Qk
  rw [if_pos e,Jb _ _ h2]
  exact hx _ (Fw hj)
theorem val6 {hk:k < D.length} (h:Lk D k hk) (e:D[k].kind=6):D[k].kids.length≤3∧∀l:List Zv,(hl:l.length=D[k].kids.length)→(∀j (hj:j < l.length),Zn D (D[k].kids[j]'(by omega)) l[j]=true)→Zn D k (.mk 0 [] l)=true:=by
 have hg:=h.good
 unfold Zp Zg at hg
 simp only [e] at hg
 simp at hg
 have hlen:=h.lens
 refine ⟨by omega,fun l hl hx=> mkv hk ?_ fun j hj=> ?_⟩
 ·unfold Qh
  simp [e,hl]
 ·unfold Qk
  rw [if_neg (by omega),if_pos e,if_pos (by omega),Jb _ _ (by omega)]
  exact hx j hj
theorem tagAt_of {r:Zi} {lim:Int} (h:Jg (Rt lim r.tags) r.tags.length=true) {j:Nat} (hj:j < r.tags.length):Tn r r.tags[j]=j:=by
 have hstep:∀i (hi:i+1 < r.tags.length),r.tags[i] < r.tags[i+1]:=fun i hi=> by
  have:=(Yw _ _).1 h (i+1) hi
  rw [Uk _ _ _ hi,Bool.and_eq_true] at this
  exact of_decide_eq_true this.2
 have hmono:∀d i (hi:i+d+1 < r.tags.length),r.tags[i] < r.tags[i+d+1]:=fun d=> by
  induction d with
  |zero=> exact fun i hi=> hstep i hi
  |succ d ih=>
   intro i hi
   have h1:=ih i (by omega)
   have h2:=hstep (i+d+1) (by omega)
   exact Int.lt_trans h1 h2
 refine Kw hj rfl fun i hi=> ?_
 have:=hmono (j - i - 1) i (by omega)
 have e:i+(j - i - 1)+1=j:=by omega
 simp only [e] at this
 omega
theorem val7 {hk:k < D.length} (h:Lk D k hk) (e:D[k].kind=7):1≤D[k].tags.length∧D[k].kids.length=D[k].tags.length+1∧∀j (hj:j < D[k].tags.length) (hj2:j+1 < D[k].kids.length) (x:Zv),Zn D (D[k].kids[j+1]) x=true→Zn D k (.mk D[k].tags[j] [] [x])=true:=by
 have hg:=h.good
 unfold Zp at hg
 rw [if_neg (by omega),if_neg (by omega),if_neg (by omega),if_neg (by omega),if_neg (by omega),if_neg (by omega),if_pos e,Bool.and_eq_true] at hg
 have hg:=hg.2
 unfold Yu at hg
 simp only [Bool.and_eq_true,beq_iff_eq] at hg
 obtain ⟨hlen,htl,hall⟩:=hg
 have htl:=Jv.1 htl
 refine ⟨by omega,by omega,fun j hj hj2 x hx=> mkv hk ?_ fun i hi=> ?_⟩
 ·have hkid:=h.kids _ (Fw hj2)
  unfold Qh Qk
  rw [tagAt_of hall hj]
  simp only [e]
  simp [Jb _ _ hj2]
  omega
 ·have:i=0:=by simp at hi;omega
  subst this
  unfold Qk
  rw [tagAt_of hall hj]
  simp only [e]
  simp [Jb _ _ hj2]
  exact hx
theorem val8 {hk:k < D.length} (h:Lk D k hk) (e:D[k].kind=8):∃h2:0 < D[k].kids.length,Zn D k (.mk 0 [] [])=true∧∀x:Zv,Zn D D[k].kids[0] x=true→Zn D k (.mk 0 [] [x])=true:=by
 have hg:=h.good
 unfold Zp Zg at hg
 simp only [e] at hg
 simp at hg
 have h2:0 < D[k].kids.length:=by omega
 refine ⟨h2,mkv hk (by unfold Qh;simp [e]) (fun j hj=> absurd hj (by simp)),fun x hx=> mkv hk (by unfold Qh;simp [e]) fun i hi=> ?_⟩
 have:i=0:=by simp at hi;omega
 subst this
 unfold Qk
 simp only [e]
 simp [Jb _ _ h2]
 exact hx
theorem val9 {hk:k < D.length} (h:Lk D k hk) (e:D[k].kind=9):∃h2:0 < D[k].kids.length,∀x:Zv,Zn D D[k].kids[0] x=true→Zn D k (.mk 0 [] [x])=true:=by
 have hg:=h.good
 unfold Zp Zg at hg
 simp only [e] at hg
 simp at hg
 have h2:0 < D[k].kids.length:=by omega
 refine ⟨h2,fun x hx=> mkv hk (by unfold Qh;simp [e]) fun i hi=> ?_⟩
 have:i=0:=by simp at hi;omega
 subst this
 unfold Qk
 simp only [e]
 simp [Jb _ _ h2]
 exact hx
end
def Rr (b:Nat) (v:Value) (l:List UInt8) (L:List RM) (k:Nat) (w:World) (e:Ending) (w':World):Prop:=
 ∃x:VM,e= .returned (Qs x)∧Zn (L.map RM.d) k x.d=true∧x.d.size≤sB k∧Ug x w.heap.size w'.heap.size w'∧Qx b w w'∧Qo b v l w'
theorem Qg.goB {w w':World} {lo o b:Nat} {bs:List UInt8} {vb vi:Value} {D:List VM} (h:Qg w lo o bs vb vi D) (hs:Qx b w w') (hb:b < lo):Qg w' lo o bs vb vi D:=
 h.keepB (Xg.of_grown (bs:= [b]) hs fun q e=> by cases e;simp) fun g hg hm=> by
  simp only [List.mem_singleton] at hm
  have:=(h.lt g hg).1
  omega
theorem Qg.setQ {w:World} {lo o:Nat} {bs:List UInt8} {vb vi:Value} {D:List VM} (h:Qg w lo o bs vb vi D) {g j:Nat} (hg:g < lo) (u:Value):Qg (w.setCell ⟨g,j,none⟩ u) lo o bs vb vi D:=
 h.keepB (Xg.of_grown (bs:= [g]) (Jj w g j u) fun q e=> by cases e;simp) fun q hq hm=> by
  simp only [List.mem_singleton] at hm
  have:=(h.lt q hq).1
  omega
structure Tf (b lo B:Nat) (v:Value) (l:List UInt8) (vD:Value) (L:List RM) (k:Nat) (w:World) (rc:Array Value) (n:Int) (bs:List UInt8) (vb vi:Value) (D:List VM) (W:World):Prop where
 cur:Qo b v l W
 st:Zy lo B (fun w'=> Qz w' B vD L) W
 go:Qx b w W
 dbox:Zo W w.heap.size 26 #[vD]
 res:Zo W (w.heap.size+1) 29 #[.int .i64 0, .slice none 0 0, .slice none 0 0]
 rbox:Zo W (w.heap.size+2) 50 rc
 vbox:Zo W (w.heap.size+3) 29 #[.int .i64 n,vb,vi]
 gr:Qg W (w.heap.size+4) (w.heap.size+3) bs vb vi D
 hb:b < w.heap.size
 hlo:b < lo
 hB:B≤w.heap.size
 hz:w.heap.size+4≤W.heap.size
section
variable {b lo B k:Nat} {v vD vb vi:Value} {l bs:List UInt8} {L:List RM} {w W W':World} {rc:Array Value} {n:Int} {D:List VM}
theorem Tf.step (h:Tf b lo B v l vD L k w rc n bs vb vi D W) (hs:Qx b W W') (hc:Qo b v l W'):Tf b lo B v l vD L k w rc n bs vb vi D W':=
 have h1:=h.hb
 ⟨hc,h.st.go hs h.hlo,h.go.trans hs,h.dbox.go hs (by omega),h.res.go hs (by omega),h.rbox.go hs (by omega),h.vbox.go hs (by omega),h.gr.goB hs (by omega),h.hb,h.hlo,h.hB,Nat.le_trans h.hz hs.size⟩
theorem Tf.below (h:Tf b lo B v l vD L k w rc n bs vb vi D W) (hb:Below W.heap.size W W'):Tf b lo B v l vD L k w rc n bs vb vi D W':=h.step (Qx.of_below hb) (h.cur.below hb)
theorem Tf.alloc (h:Tf b lo B v l vD L k w rc n bs vb vi D W) (o:Obj):Tf b lo B v l vD L k w rc n bs vb vi D (W.alloc o):=h.below ((Fv _ _).alloc (Fu _) o)
theorem Tf.drew (h:Tf b lo B v l vD L k w rc n bs vb vi D W):Tf b lo B v l vD L k w rc n bs vb vi D W.drew:=h.step ⟨rfl,rfl,rfl,Fu _,fun _ _ _=> rfl⟩ h.cur.drew
theorem Tf.setV (h:Tf b lo B v l vD L k w rc n bs vb vi D W) (j:Nat) (u:Value) {n':Int} {bs':List UInt8} {vb' vi':Value} {D':List VM} (hc: #[.int .i64 n',vb',vi']=(#[.int .i64 n,vb,vi]:Array Value).setIfInBounds j u)
  (hg:Qg (W.setCell ⟨w.heap.size+3,j,none⟩ u) (w.heap.size+4) (w.heap.size+3) bs' vb' vi' D'):Tf b lo B v l vD L k w rc n' bs' vb' vi' D' (W.setCell ⟨w.heap.size+3,j,none⟩ u):=
 have h1:=h.hb
 have h3:=h.hB
 ⟨h.cur.set (by omega) u,h.st.set (.inr (by omega)) u,h.go.set (by omega) u,h.dbox.other (by omega) u,h.res.other (by omega) u,h.rbox.other (by omega) u,by rw [hc];exact h.vbox.set j u,hg,h.hb,h.hlo,h.hB,by simpa using h.hz⟩
theorem Tf.setN (h:Tf b lo B v l vD L k w rc n bs vb vi D W) (n':Int):Tf b lo B v l vD L k w rc n' bs vb vi D (W.setCell ⟨w.heap.size+3,0,none⟩ (.int .i64 n')):=
 h.setV 0 _ (by simp) (h.gr.setQ (by omega) _)
theorem Tf.setB {u:Value} {xs:List UInt8} (h:Tf b lo B v l vD L k w rc n [] (.slice none 0 0) (.slice none 0 0) [] W) (hr:W.ownsRow (w.heap.size+4) 5 1 u xs.length (Uy xs)):Tf b lo B v l vD L k w rc n xs u (.slice none 0 0) [] (W.setCell ⟨w.heap.size+3,1,none⟩ u):=
 h.setV 1 _ (by simp) ((Qg.mk0 hr (World.ownsRow_nil _ _ _ _) (fun e=> by have:=(hr.lt _ e).1;omega) (fun e=> by cases e) (fun g e=> by cases e)).setQ (by omega) _)
theorem Tf.setI {y:VM} {g:Nat} (h:Tf b lo B v l vD L k w rc n [] (.slice none 0 0) (.slice none 0 0) [] W) (hg:Zo W g 29 (Ze y).toArray) (hy:y.own (w.heap.size+4) W) (hn:y.bks.Nodup) (hgy:g ∉ y.bks) (hg4:w.heap.size+4≤g):
  Tf b lo B v l vD L k w rc n [] (.slice none 0 0) (.slice (some ⟨g,0,none⟩) 1 1) [y] (W.setCell ⟨w.heap.size+3,2,none⟩ (.slice (some ⟨g,0,none⟩) 1 1)):=by
 refine h.setV 2 _ (by simp) (Qg.setQ ?_ (by omega) _)
 refine ⟨World.ownsRow_nil _ _ _ _,⟨by simp [Ze], .inr ⟨g,1,_,rfl,hg4,hg,Fu _,by simp [maxLen],by simp [Ze],by simp [Ze]⟩⟩,fun x hx=> by simp at hx;subst hx;exact hy,?_⟩
 rw [VM.bkss_cons,VM.bkss_nil,List.append_nil]
 show ((w.heap.size+3)::g::y.bks).Nodup
 rw [List.nodup_cons,List.nodup_cons]
 refine ⟨fun hm=> ?_,hgy,hn⟩
 rcases List.mem_cons.1 hm with e|e
 ·omega
 ·have:=(hy.lt _ e).1;omega
theorem Tf.fin (h:Tf b lo B v l vD L k w rc n bs vb vi D W):
  ∃Wf,Wf=((W.setCell ⟨w.heap.size+1,0,none⟩ (.int .i64 n)).setCell ⟨w.heap.size+1,1,none⟩ vb).setCell ⟨w.heap.size+1,2,none⟩ vi∧
   Zo Wf (w.heap.size+1) 29 #[.int .i64 n,vb,vi]∧Qx b w Wf∧Qo b v l Wf∧(∃x:VM,x.d= .mk n bs (D.map VM.d)∧ .agg #[.int .i64 n,vb,vi]=Qs x∧Ug x w.heap.size Wf.heap.size Wf)∧Wf.heap.size=W.heap.size:=by
 have h1:=h.hb
 have hz:=h.hz
 refine ⟨_,rfl,?_,?_,?_,?_,by simp [World.setCell]⟩
 ·have:=((h.res.set 0 (.int .i64 n)).set 1 vb).set 2 vi
  simpa using this
 ·exact ((h.go.set (by omega) _).set (by omega) _).set (by omega) _
 ·exact ((h.cur.set (by omega) _).set (by omega) _).set (by omega) _
 ·obtain ⟨x,e1,e2,e3⟩:=(((h.gr.setQ (g:=w.heap.size+1) (j:=0) (by omega) (.int .i64 n)).setQ (g:=w.heap.size+1) (j:=1) (by omega) vb).setQ (g:=w.heap.size+1) (j:=2) (by omega) vi).fin n
  exact ⟨x,e1,e2,e3.wide (by omega) (Fu _)⟩
end
theorem Zo.c3 {w:World} {g:Nat} {T:TypeId} {a0 a1 a2:Value} (h:Zo w g T #[a0,a1,a2]):
  (w.cell? ⟨g,0,none⟩=some a0∧w.cell? ⟨g,1,none⟩=some a1∧w.cell? ⟨g,2,none⟩=some a2)∧(w.frozen? ⟨g,0,none⟩=false∧w.frozen? ⟨g,1,none⟩=false∧w.frozen? ⟨g,2,none⟩=false):=
 ⟨⟨h.cell 0 rfl,h.cell 1 rfl,h.cell 2 rfl⟩,h.frozen 0,h.frozen 1,h.frozen 2⟩
theorem Tf.putB {b lo B k:Nat} {v vD:Value} {l xs:List UInt8} {L:List RM} {w W:World} {rc:Array Value} {n:Int} {g c:Nat} (h:Tf b lo B v l vD L k w rc n xs (.slice (some ⟨g,0,none⟩) xs.length c) (.slice none 0 0) [] W) (z:UInt8):
  Tf b lo B v l vD L k w rc n (xs.set 0 z) (.slice (some ⟨g,0,none⟩) xs.length c) (.slice none 0 0) [] (W.setCell ⟨g,0,none⟩ (u8v z)):=by
 have h1:=h.hb
 have h3:=h.hB
 have hg:=(h.gr.bytes.lt g rfl).1
 have hrow:(W.setCell ⟨g,0,none⟩ (u8v z)).ownsRow (w.heap.size+4) 5 1 (.slice (some ⟨g,0,none⟩) xs.length c) (xs.set 0 z).length (Uy (xs.set 0 z)):=by
  have:=(h.gr.bytes.stored 0 (u8v z)).1
  rw [List.length_set]
  have e:Uy (xs.set 0 z)=(Uy xs).set 0 (u8v z):=by simp [Uy,List.map_set]
  rw [e]
  exact this
 exact ⟨h.cur.set (by omega) _,h.st.set (.inr (by omega)) _,h.go.set (by omega) _,h.dbox.other (by omega) _,h.res.other (by omega) _,h.rbox.other (by omega) _,h.vbox.other (by omega) _,
  Qg.mk0 hrow (World.ownsRow_nil _ _ _ _) (fun e=> by have e2:g=w.heap.size+3:=Fz e;omega) (fun e=> by cases e) (fun g e=> by cases e),h1,h.hlo,h3,by simpa using h.hz⟩
theorem Tf.app {b lo B k:Nat} {v vD vb vi vi':Value} {l bs:List UInt8} {L:List RM} {w W W2 Wa W3:World} {rc:Array Value} {n:Int} {D:List VM} {y:VM} (h:Tf b lo B v l vD L k w rc n bs vb vi D W) (hyo:Ug y W.heap.size W2.heap.size W2) (hgo:Qx b W W2) (hcu:Qo b v l W2) (ha:Below W2.heap.size W2 Wa)
  (own2:W3.ownsRow (w.heap.size+4) 29 3 vi' (D.length+1) (D.flatMap Ze++Ze y)) (hg:Wa.grownBy W3 vi.ownBlock) (hv:vi'.ownBlock=vi.ownBlock∨vi'.ownBlock=some Wa.heap.size):
  (Zo W3 w.heap.size 26 #[vD]∧Zo W3 (w.heap.size+2) 50 rc∧Zo W3 (w.heap.size+3) 29 #[.int .i64 n,vb,vi]∧Zy lo B (fun w'=> Qz w' B vD L) W3)∧
    Tf b lo B v l vD L k w rc n bs vb vi' (D++ [y]) (W3.setCell ⟨w.heap.size+3,2,none⟩ vi'):=by
 have h1:=h.hb
 have h3:=h.hB
 have hz:=h.hz
 have hlo:=h.hlo
 have hS:=(h.step hgo hcu).below ha
 have hr0:∀q,vi.ownBlock=some q→w.heap.size+4≤q:=fun q e=> (h.gr.row.lt q e).1
 have ne:∀q,q < w.heap.size+4→vi.ownBlock≠some q:=fun q hq e=> by have:=hr0 q e;omega
 have hd3:=hS.dbox.row hg (ne _ (by omega))
 have hr3:=hS.rbox.row hg (ne _ (by omega))
 have hv3:=hS.vbox.row hg (ne _ (by omega))
 have hs3:=hS.st.row hg (fun q e=> .inr (by have:=hr0 q e;omega))
 have hgr:Qg W3 (w.heap.size+4) (w.heap.size+3) bs vb vi' (D++ [y]):=Qg.snoc (h.gr.goB hgo (by omega)) hyo (fun g hg'=> by
  rcases List.mem_cons.1 hg' with rfl|hg'
  ·omega
  ·exact (h.gr.lt g hg').2) hgo.size hz ha own2 hg hv
 refine ⟨⟨hd3,hr3,hv3,hs3⟩,(hS.cur.rowG hg fun q e=> by have:=hr0 q e;omega).set (by omega) _,hs3.set (.inr (by omega)) _,(hS.go.rowG hg fun q e=> by have:=hr0 q e;omega).set (by omega) _,hd3.other (by omega) _,(hS.res.row hg (ne _ (by omega))).other (by omega) _,hr3.other (by omega) _,?_,hgr.setQ (by omega) _,h1,hlo,h3,by have:=hS.hz;have:=hg.size;simp;omega⟩
 have:=hv3.set 2 vi'
 simpa using this
def MkVC (b lo B:Nat) (v:Value) (l:List UInt8) (vD:Value) (L:List RM) (k:Nat):Prop:=∀(M:Nat) (w:World),Qo b v l w→Zy lo B (fun w'=> Qz w' B vD L) w→B≤w.heap.size→M≤1000→
 Calls prog 22 #[.pointer (some ⟨b,0,none⟩), .agg #[vD], .int .i64 k, .int .i64 M] w (Rr b v l L k w)
theorem cellS {T:Type} {f:T→Value} {xs:List T} {v:Value} {B:Nat} {R:World→Prop} (hR:∀W,R W→Sl W B 1 v xs.length (xs.map f)) {w:World} (h:R w) {A:Option Addr} {n c:Nat} (e:v= .slice A n c) {j:Nat} (hj:j < xs.length):
  ∃bb ff,A=some ⟨bb,ff,none⟩∧bb < B∧∀W,R W→W.cell? ⟨bb,ff+j,none⟩=some (f xs[j]):=by
 subst e
 obtain ⟨A',c',e',_,_,hcell⟩:=Sl.one (hR w h)
 obtain ⟨bb,ff,e2,hbb, -⟩:=hcell j hj
 cases e'
 refine ⟨bb,ff,e2,hbb,fun W hW=> ?_⟩
 obtain ⟨A2,c2,e3,_,_,hcell2⟩:=Sl.one (hR W hW)
 obtain ⟨b2,f2,e4, -,hc⟩:=hcell2 j hj
 cases e3
 rw [e2] at e4
 cases e4
 exact hc
theorem kidS {lo B k:Nat} {vD:Value} {L:List RM} {w:World} (hd:Zy lo B (fun w'=> Qz w' B vD L) w) (hk:k < L.length) {A:Option Addr} {n c:Nat} (e:L[k].vk= .slice A n c) {j:Nat} (hj:j < L[k].d.kids.length):
  ∃bb ff,A=some ⟨bb,ff,none⟩∧bb < B∧∀W,Zy lo B (fun w'=> Qz w' B vD L) W→W.cell? ⟨bb,ff+j,none⟩=some (.int .i64 L[k].d.kids[j]):=
 cellS (R:=fun W=> Zy lo B (fun w'=> Qz w' B vD L) W) (fun W hW=> (hW.now.2 _ (Fw hk)).k) hd e hj
theorem tagS {lo B k:Nat} {vD:Value} {L:List RM} {w:World} (hd:Zy lo B (fun w'=> Qz w' B vD L) w) (hk:k < L.length) {A:Option Addr} {n c:Nat} (e:L[k].vt= .slice A n c) {j:Nat} (hj:j < L[k].d.tags.length):
  ∃bb ff,A=some ⟨bb,ff,none⟩∧bb < B∧∀W,Zy lo B (fun w'=> Qz w' B vD L) W→W.cell? ⟨bb,ff+j,none⟩=some (.int .i64 L[k].d.tags[j]):=
 cellS (R:=fun W=> Zy lo B (fun w'=> Qz w' B vD L) W) (fun W hW=> (hW.now.2 _ (Fw hk)).t) hd e hj
theorem byteS {lo B k:Nat} {vD:Value} {L:List RM} {w:World} (hd:Zy lo B (fun w'=> Qz w' B vD L) w) (hk:k < L.length) {A:Option Addr} {n c:Nat} (e:L[k].vb= .slice A n c) {j:Nat} (hj:j < L[k].d.bytes.length):
  ∃bb ff,A=some ⟨bb,ff,none⟩∧bb < B∧∀W,Zy lo B (fun w'=> Qz w' B vD L) W→W.cell? ⟨bb,ff+j,none⟩=some (u8v L[k].d.bytes[j]):=
 cellS (R:=fun W=> Zy lo B (fun w'=> Qz w' B vD L) W) (fun W hW=> (hW.now.2 _ (Fw hk)).b) hd e hj
theorem l9Make_1 (b lo B:Nat) (v vD:Value) (l:List UInt8) (L:List RM) (k M:Nat) (w:World) (h:Qo b v l w) (hd:Zy lo B (fun w'=> Qz w' B vD L) w) (hlo:b < lo) (hB:B≤w.heap.size) (hD:Ud (L.map RM.d)) (h9:L.length≤9) (hk:k < L.length) (hM:M≤1000) (hkind:L[k].d.kind=1):
  Calls prog 22 #[.pointer (some ⟨b,0,none⟩), .agg #[vD], .int .i64 k, .int .i64 M] w (Rr b v l L k w):=by
 have hlm:(L.map RM.d).length=L.length:=List.length_map ..
 have hkD:k < (L.map RM.d).length:=by rw [hlm];exact hk
 have hge:(L.map RM.d)[k]=L[k].d:=List.getElem_map ..
 have RU:=Fs (hD.ruK (by rw [hlm];exact h9) hkD)
 obtain ⟨A,c,rfl,hc,hm, -⟩:=hd.now.open_
 have hRC:=Zw hd.now k hk
 obtain ⟨b0,off,A1,c1,A2,c2,A3,c3,A4,c4,rfl,hbB,e1,e2,e3,e4,m1,m2,m3,m4,hcell⟩:=hRC
 unfold maxLen at hm
 have hbw:=h.lt
 obtain ⟨W0,hW0⟩:∃W0,W0=(w.alloc (.cells #[.slice (some ⟨b0,off,none⟩) L.length c] 26)).alloc (.cells #[.int .i64 0, .slice none 0 0, .slice none 0 0] 29):=⟨_,rfl⟩
 have hb0:Below w.heap.size w W0:=by rw [hW0];exact ((Fv w.heap.size w).alloc (Fu _) _).alloc (by simp) _
 have hz0:W0.heap.size=w.heap.size+2:=by rw [hW0];simp
 have D0:Zo W0 w.heap.size 26 #[.slice (some ⟨b0,off,none⟩) L.length c]:=by rw [hW0];exact (Zo.new w _ _).alloc _
 have R0:Zo W0 (w.heap.size+1) 29 #[.int .i64 0, .slice none 0 0, .slice none 0 0]:=by
  rw [hW0]
  have:=Zo.new (w.alloc (.cells #[.slice (some ⟨b0,off,none⟩) L.length c] 26)) 29 #[.int .i64 0, .slice none 0 0, .slice none 0 0]
  simpa using this
 have s0:W0.cell? ⟨w.heap.size,0,none⟩=some (.slice (some ⟨b0,off,none⟩) L.length c):=D0.cell 0 rfl
 obtain ⟨x0,x1,x2,x3,x4,x5,x6,x7⟩:=hcell W0 (Zu hb0 hB)
 rw [hkind] at x1
 obtain ⟨W3,hW3⟩:∃W3,W3=(W0.alloc (.cells #[.string L[k].d.name, .int .i64 1, .int .i64 L[k].d.size, .bool L[k].d.little, .slice A1 L[k].d.bytes.length c1, .slice A2 L[k].d.names.length c2, .slice A3 L[k].d.tags.length c3, .slice A4 L[k].d.kids.length c4] 50)).alloc (.cells #[.int .i64 0, .slice none 0 0, .slice none 0 0] 29):=⟨_,rfl⟩
 have hb3:Below W0.heap.size W0 W3:=by rw [hW3];exact ((Fv W0.heap.size W0).alloc (Fu _) _).alloc (by simp) _
 have hb3':=Zb hb3 hb0
 have H3:Tf b lo B v l (.slice (some ⟨b0,off,none⟩) L.length c) L k w #[.string L[k].d.name, .int .i64 1, .int .i64 L[k].d.size, .bool L[k].d.little, .slice A1 L[k].d.bytes.length c1, .slice A2 L[k].d.names.length c2, .slice A3 L[k].d.tags.length c3, .slice A4 L[k].d.kids.length c4] 0 [] (.slice none 0 0) (.slice none 0 0) [] W3:=by
  refine ⟨h.below hb3',hd.below hb3',Qx.of_below hb3',D0.below hb3,R0.below hb3,?_,?_,Qg.mk0 (World.ownsRow_nil _ _ _ _) (World.ownsRow_nil _ _ _ _) (fun e=> by cases e) (fun e=> by cases e) (fun g e=> by cases e),hbw,hlo,hB,by rw [hW3];simp;omega⟩
  ·rw [hW3,←hz0];exact (Zo.new W0 _ _).alloc _
  ·rw [hW3]
   have:=Zo.new (W0.alloc (.cells #[.string L[k].d.name, .int .i64 1, .int .i64 L[k].d.size, .bool L[k].d.little, .slice A1 L[k].d.bytes.length c1, .slice A2 L[k].d.names.length c2, .slice A3 L[k].d.tags.length c3, .slice A4 L[k].d.kids.length c4] 50)) 29 #[.int .i64 0, .slice none 0 0, .slice none 0 0]
   simp only [World.size_alloc,hz0] at this
   exact this
 have HV:=Fs (Ft hd (Ft hcell (Ft e1 (Ft e2 (Ft e3 e4)))))
 have HD:=Fs hD
 have hkl:=hk
 unfold maxLen at m1 m2 m3 m4
 clear h hd hD D0 R0 hb3 hb3' hcell e1 e2 e3 e4
 go_enter func22,ntmps22
 go_upto_region 1 with fail
 rw [←hW0]
 clear hW0 hb0
 go_upto_region 3 with fail
 rw [←hW3]
 clear hW3 s0 x0 x1 x2 x3 x4 x5 x6 x7
 have HZ:=Fs (Ft hz0 hB)
 clear hz0
 obtain ⟨⟨q0,q1,q2,q3,q4,q5,q6,q7⟩,f0,f1,f2,f3,f4,f5,f6,f7⟩:=H3.rbox.c8
 obtain ⟨⟨r0,r1,r2⟩,e0,e1,e2⟩:=H3.res.c3
 obtain ⟨⟨p0,p1,p2⟩,g0,g1,g2⟩:=H3.vbox.c3
 obtain ⟨hs1,hs2,hval⟩:=val1 RU.out (by rw [hge];exact hkind)
 rw [hge] at hs1 hs2 hval
 have HVL:=Fs hval
 clear hval
 go_wp2_with fail
 refine (Vs _ _ hs1 hs2).mono ?_
 rintro e w1 ⟨rfl,rfl⟩
 have hp8:256≤Tb L[k].d.size:=by
  have:L[k].d.size=1∨L[k].d.size=2∨L[k].d.size=3∨L[k].d.size=4:=by omega
  unfold Tb
  rcases this with e|e|e|e <;> rw [e] <;> decide
 generalize Tb L[k].d.size=pw at*
 go_wp2_with fail
 refine (Yy _ _ _).mono ?_
 rintro e w1 ⟨rfl,rfl⟩
 obtain ⟨mm,hmm⟩:∃mm:Int,mm=min pw 70000:=⟨_,rfl⟩
 rw [←hmm]
 have hm1:0 < mm:=by omega
 have hm2:mm≤pw:=by omega
 have hm3:mm≤70000:=by omega
 clear hmm
 go_wp2_with fail
 refine (Qn b b v l mm W3 H3.cur (by omega) (by omega)).mono ?_
 rintro e w4 ⟨⟨z,rfl,hz0',hz1'⟩,hs,hzq,hc3⟩
 have H4:=Fs (H3.step hs hc3)
 clear hzq hs hc3 H3 q0 q1 q2 q3 q4 q5 q6 q7 f0 f1 f2 f3 f4 f5 f6 f7 r0 r1 r2 e0 e1 e2 p0 p1 p2 g0 g1 g2
 obtain ⟨⟨q0,q1,q2,q3,q4,q5,q6,q7⟩,f0,f1,f2,f3,f4,f5,f6,f7⟩:=H4.out.rbox.c8
 obtain ⟨⟨r0,r1,r2⟩,e0,e1,e2⟩:=H4.out.res.c3
 obtain ⟨⟨p0,p1,p2⟩,g0,g1,g2⟩:=H4.out.vbox.c3
 go_wp2
 obtain ⟨Wf,hWf,hR,hgo,hcu,⟨x,hxd,hxv,hxo⟩,hsz⟩:=(H4.out.setN z).fin
 rw [←hWf]
 obtain ⟨⟨t0,t1,t2⟩, -⟩:=hR.c3
 refine bodyPost_ret (v:= .agg #[.int .i64 z, .slice none 0 0, .slice none 0 0]) (by simp [results,results22,go_sem,t0,t1,t2]) rfl ⟨x,by rw [hxv],by rw [hxd];exact HVL.out z hz0' (by omega),by rw [hxd];exact Yk (by simp) (by simp) (.inl rfl) (by simp),hxo,hgo,hcu⟩
theorem l9Make_2 (b lo B:Nat) (v vD:Value) (l:List UInt8) (L:List RM) (k M:Nat) (w:World) (h:Qo b v l w) (hd:Zy lo B (fun w'=> Qz w' B vD L) w) (hlo:b < lo) (hB:B≤w.heap.size) (hD:Ud (L.map RM.d)) (h9:L.length≤9) (hk:k < L.length) (hM:M≤1000) (hkind:L[k].d.kind=2):
  Calls prog 22 #[.pointer (some ⟨b,0,none⟩), .agg #[vD], .int .i64 k, .int .i64 M] w (Rr b v l L k w):=by
 have hlm:(L.map RM.d).length=L.length:=List.length_map ..
 have hkD:k < (L.map RM.d).length:=by rw [hlm];exact hk
 have hge:(L.map RM.d)[k]=L[k].d:=List.getElem_map ..
 have RU:=Fs (hD.ruK (by rw [hlm];exact h9) hkD)
 obtain ⟨A,c,rfl,hc,hm, -⟩:=hd.now.open_
 have hRC:=Zw hd.now k hk
 obtain ⟨b0,off,A1,c1,A2,c2,A3,c3,A4,c4,rfl,hbB,e1,e2,e3,e4,m1,m2,m3,m4,hcell⟩:=hRC
 unfold maxLen at hm
 have hbw:=h.lt
 obtain ⟨W0,hW0⟩:∃W0,W0=(w.alloc (.cells #[.slice (some ⟨b0,off,none⟩) L.length c] 26)).alloc (.cells #[.int .i64 0, .slice none 0 0, .slice none 0 0] 29):=⟨_,rfl⟩
 have hb0:Below w.heap.size w W0:=by rw [hW0];exact ((Fv w.heap.size w).alloc (Fu _) _).alloc (by simp) _
 have hz0:W0.heap.size=w.heap.size+2:=by rw [hW0];simp
 have D0:Zo W0 w.heap.size 26 #[.slice (some ⟨b0,off,none⟩) L.length c]:=by rw [hW0];exact (Zo.new w _ _).alloc _
 have R0:Zo W0 (w.heap.size+1) 29 #[.int .i64 0, .slice none 0 0, .slice none 0 0]:=by
  rw [hW0]
  have:=Zo.new (w.alloc (.cells #[.slice (some ⟨b0,off,none⟩) L.length c] 26)) 29 #[.int .i64 0, .slice none 0 0, .slice none 0 0]
  simpa using this
 have s0:W0.cell? ⟨w.heap.size,0,none⟩=some (.slice (some ⟨b0,off,none⟩) L.length c):=D0.cell 0 rfl
 obtain ⟨x0,x1,x2,x3,x4,x5,x6,x7⟩:=hcell W0 (Zu hb0 hB)
 rw [hkind] at x1
 obtain ⟨W3,hW3⟩:∃W3,W3=(W0.alloc (.cells #[.string L[k].d.name, .int .i64 2, .int .i64 L[k].d.size, .bool L[k].d.little, .slice A1 L[k].d.bytes.length c1, .slice A2 L[k].d.names.length c2, .slice A3 L[k].d.tags.length c3, .slice A4 L[k].d.kids.length c4] 50)).alloc (.cells #[.int .i64 0, .slice none 0 0, .slice none 0 0] 29):=⟨_,rfl⟩
 have hb3:Below W0.heap.size W0 W3:=by rw [hW3];exact ((Fv W0.heap.size W0).alloc (Fu _) _).alloc (by simp) _
 have hb3':=Zb hb3 hb0
 have H3:Tf b lo B v l (.slice (some ⟨b0,off,none⟩) L.length c) L k w #[.string L[k].d.name, .int .i64 2, .int .i64 L[k].d.size, .bool L[k].d.little, .slice A1 L[k].d.bytes.length c1, .slice A2 L[k].d.names.length c2, .slice A3 L[k].d.tags.length c3, .slice A4 L[k].d.kids.length c4] 0 [] (.slice none 0 0) (.slice none 0 0) [] W3:=by
  refine ⟨h.below hb3',hd.below hb3',Qx.of_below hb3',D0.below hb3,R0.below hb3,?_,?_,Qg.mk0 (World.ownsRow_nil _ _ _ _) (World.ownsRow_nil _ _ _ _) (fun e=> by cases e) (fun e=> by cases e) (fun g e=> by cases e),hbw,hlo,hB,by rw [hW3];simp;omega⟩
  ·rw [hW3,←hz0];exact (Zo.new W0 _ _).alloc _
  ·rw [hW3]
   have:=Zo.new (W0.alloc (.cells #[.string L[k].d.name, .int .i64 2, .int .i64 L[k].d.size, .bool L[k].d.little, .slice A1 L[k].d.bytes.length c1, .slice A2 L[k].d.names.length c2, .slice A3 L[k].d.tags.length c3, .slice A4 L[k].d.kids.length c4] 50)) 29 #[.int .i64 0, .slice none 0 0, .slice none 0 0]
   simp only [World.size_alloc,hz0] at this
   exact this
 have HV:=Fs (Ft hd (Ft hcell (Ft e1 (Ft e2 (Ft e3 e4)))))
 have HD:=Fs hD
 have hkl:=hk
 unfold maxLen at m1 m2 m3 m4
 clear h hd hD D0 R0 hb3 hb3' hcell e1 e2 e3 e4
 go_enter func22,ntmps22
 go_upto_region 1 with fail
 rw [←hW0]
 clear hW0 hb0
 go_upto_region 3 with fail
 rw [←hW3]
 clear hW3 s0 x0 x1 x2 x3 x4 x5 x6 x7
 have HZ:=Fs (Ft hz0 hB)
 clear hz0
 obtain ⟨⟨q0,q1,q2,q3,q4,q5,q6,q7⟩,f0,f1,f2,f3,f4,f5,f6,f7⟩:=H3.rbox.c8
 obtain ⟨⟨r0,r1,r2⟩,e0,e1,e2⟩:=H3.res.c3
 obtain ⟨⟨p0,p1,p2⟩,g0,g1,g2⟩:=H3.vbox.c3
 go_wp2
 obtain ⟨Wf,hWf,hR,hgo,hcu,⟨x,hxd,hxv,hxo⟩,hsz⟩:=(H3).fin
 rw [←hWf]
 obtain ⟨⟨t0,t1,t2⟩, -⟩:=hR.c3
 refine bodyPost_ret (v:= .agg #[.int .i64 0, .slice none 0 0, .slice none 0 0]) (by simp [results,results22,go_sem,t0,t1,t2]) rfl ⟨x,by rw [hxv],by rw [hxd];exact val2 (hk:=hkD) (by rw [hge];exact hkind),by rw [hxd];exact Yk (by simp) (by simp) (.inl rfl) (by simp),hxo,hgo,hcu⟩
theorem l9Make_3 (b lo B:Nat) (v vD:Value) (l:List UInt8) (L:List RM) (k M:Nat) (w:World) (h:Qo b v l w) (hd:Zy lo B (fun w'=> Qz w' B vD L) w) (hlo:b < lo) (hB:B≤w.heap.size) (hD:Ud (L.map RM.d)) (h9:L.length≤9) (hk:k < L.length) (hM:M≤1000) (hkind:L[k].d.kind=3):
  Calls prog 22 #[.pointer (some ⟨b,0,none⟩), .agg #[vD], .int .i64 k, .int .i64 M] w (Rr b v l L k w):=by
 have hlm:(L.map RM.d).length=L.length:=List.length_map ..
 have hkD:k < (L.map RM.d).length:=by rw [hlm];exact hk
 have hge:(L.map RM.d)[k]=L[k].d:=List.getElem_map ..
 have RU:=Fs (hD.ruK (by rw [hlm];exact h9) hkD)
 obtain ⟨A,c,rfl,hc,hm, -⟩:=hd.now.open_
 have hRC:=Zw hd.now k hk
 obtain ⟨b0,off,A1,c1,A2,c2,A3,c3,A4,c4,rfl,hbB,e1,e2,e3,e4,m1,m2,m3,m4,hcell⟩:=hRC
 unfold maxLen at hm
 have hbw:=h.lt
 obtain ⟨W0,hW0⟩:∃W0,W0=(w.alloc (.cells #[.slice (some ⟨b0,off,none⟩) L.length c] 26)).alloc (.cells #[.int .i64 0, .slice none 0 0, .slice none 0 0] 29):=⟨_,rfl⟩
 have hb0:Below w.heap.size w W0:=by rw [hW0];exact ((Fv w.heap.size w).alloc (Fu _) _).alloc (by simp) _
 have hz0:W0.heap.size=w.heap.size+2:=by rw [hW0];simp
 have D0:Zo W0 w.heap.size 26 #[.slice (some ⟨b0,off,none⟩) L.length c]:=by rw [hW0];exact (Zo.new w _ _).alloc _
 have R0:Zo W0 (w.heap.size+1) 29 #[.int .i64 0, .slice none 0 0, .slice none 0 0]:=by
  rw [hW0]
  have:=Zo.new (w.alloc (.cells #[.slice (some ⟨b0,off,none⟩) L.length c] 26)) 29 #[.int .i64 0, .slice none 0 0, .slice none 0 0]
  simpa using this
 have s0:W0.cell? ⟨w.heap.size,0,none⟩=some (.slice (some ⟨b0,off,none⟩) L.length c):=D0.cell 0 rfl
 obtain ⟨x0,x1,x2,x3,x4,x5,x6,x7⟩:=hcell W0 (Zu hb0 hB)
 rw [hkind] at x1
 obtain ⟨W3,hW3⟩:∃W3,W3=(W0.alloc (.cells #[.string L[k].d.name, .int .i64 3, .int .i64 L[k].d.size, .bool L[k].d.little, .slice A1 L[k].d.bytes.length c1, .slice A2 L[k].d.names.length c2, .slice A3 L[k].d.tags.length c3, .slice A4 L[k].d.kids.length c4] 50)).alloc (.cells #[.int .i64 0, .slice none 0 0, .slice none 0 0] 29):=⟨_,rfl⟩
 have hb3:Below W0.heap.size W0 W3:=by rw [hW3];exact ((Fv W0.heap.size W0).alloc (Fu _) _).alloc (by simp) _
 have hb3':=Zb hb3 hb0
 have H3:Tf b lo B v l (.slice (some ⟨b0,off,none⟩) L.length c) L k w #[.string L[k].d.name, .int .i64 3, .int .i64 L[k].d.size, .bool L[k].d.little, .slice A1 L[k].d.bytes.length c1, .slice A2 L[k].d.names.length c2, .slice A3 L[k].d.tags.length c3, .slice A4 L[k].d.kids.length c4] 0 [] (.slice none 0 0) (.slice none 0 0) [] W3:=by
  refine ⟨h.below hb3',hd.below hb3',Qx.of_below hb3',D0.below hb3,R0.below hb3,?_,?_,Qg.mk0 (World.ownsRow_nil _ _ _ _) (World.ownsRow_nil _ _ _ _) (fun e=> by cases e) (fun e=> by cases e) (fun g e=> by cases e),hbw,hlo,hB,by rw [hW3];simp;omega⟩
  ·rw [hW3,←hz0];exact (Zo.new W0 _ _).alloc _
  ·rw [hW3]
   have:=Zo.new (W0.alloc (.cells #[.string L[k].d.name, .int .i64 3, .int .i64 L[k].d.size, .bool L[k].d.little, .slice A1 L[k].d.bytes.length c1, .slice A2 L[k].d.names.length c2, .slice A3 L[k].d.tags.length c3, .slice A4 L[k].d.kids.length c4] 50)) 29 #[.int .i64 0, .slice none 0 0, .slice none 0 0]
   simp only [World.size_alloc,hz0] at this
   exact this
 have HV:=Fs (Ft hd (Ft hcell (Ft e1 (Ft e2 (Ft e3 e4)))))
 have HD:=Fs hD
 have hkl:=hk
 unfold maxLen at m1 m2 m3 m4
 clear h hd hD D0 R0 hb3 hb3' hcell e1 e2 e3 e4
 go_enter func22,ntmps22
 go_upto_region 1 with fail
 rw [←hW0]
 clear hW0 hb0
 go_upto_region 3 with fail
 rw [←hW3]
 clear hW3 s0 x0 x1 x2 x3 x4 x5 x6 x7
 have HZ:=Fs (Ft hz0 hB)
 clear hz0
 obtain ⟨⟨q0,q1,q2,q3,q4,q5,q6,q7⟩,f0,f1,f2,f3,f4,f5,f6,f7⟩:=H3.rbox.c8
 obtain ⟨⟨r0,r1,r2⟩,e0,e1,e2⟩:=H3.res.c3
 obtain ⟨⟨p0,p1,p2⟩,g0,g1,g2⟩:=H3.vbox.c3
 obtain ⟨hs1,hval⟩:=val3 RU.out (by rw [hge];exact hkind)
 rw [hge] at hs1 hval
 obtain ⟨sz,hsz⟩:=Int.eq_ofNat_of_zero_le hs1
 have hsb:=RU.out.size.2
 rw [hge] at hsb
 rw [hsz] at hval hsb q2
 have HVL:=Fs hval
 clear hval hs1 hsz
 go_wp2_with fail
 refine (Ti b v l sz W3 H3.cur (by omega)).mono ?_
 rintro e w4 ⟨u,xs,rfl,hxl,hown,hs4,hc4⟩
 have HXL:=Fs hxl
 clear hxl
 have hz3:=H3.hz
 obtain ⟨Au,cu,rfl⟩:=Zq hown
 have H4:=Fs (H3.step hs4 hc4)
 have HO:=Fs (Ve hown hz3)
 clear hs4 hc4 hown H3 q0 q1 q2 q3 q4 q5 q6 q7 f0 f1 f2 f3 f4 f5 f6 f7 r0 r1 r2 e0 e1 e2 p0 p1 p2 g0 g1 g2
 obtain ⟨⟨q0,q1,q2,q3,q4,q5,q6,q7⟩,f0,f1,f2,f3,f4,f5,f6,f7⟩:=H4.out.rbox.c8
 obtain ⟨⟨r0,r1,r2⟩,e0,e1,e2⟩:=H4.out.res.c3
 obtain ⟨⟨p0,p1,p2⟩,g0,g1,g2⟩:=H4.out.vbox.c3
 go_wp2
 obtain ⟨Wf,hWf,hR,hgo,hcu,⟨x,hxd,hxv,hxo⟩,hsz⟩:=(H4.out.setB HO.out).fin
 rw [←hWf]
 obtain ⟨⟨t0,t1,t2⟩, -⟩:=hR.c3
 refine bodyPost_ret (v:= .agg #[.int .i64 0, .slice Au xs.length cu, .slice none 0 0]) (by simp [results,results22,go_sem,t0,t1,t2]) rfl ⟨x,by rw [hxv],by rw [hxd];exact HVL.out xs (by rw [HXL.out]),by rw [hxd];exact Yk (by have:=HXL.out;omega) (by simp) (.inl rfl) (by simp),hxo,hgo,hcu⟩
theorem l9Make_4 (b lo B:Nat) (v vD:Value) (l:List UInt8) (L:List RM) (k M:Nat) (w:World) (h:Qo b v l w) (hd:Zy lo B (fun w'=> Qz w' B vD L) w) (hlo:b < lo) (hB:B≤w.heap.size) (hD:Ud (L.map RM.d)) (h9:L.length≤9) (hk:k < L.length) (hM:M≤1000) (hkind:L[k].d.kind=4):
  Calls prog 22 #[.pointer (some ⟨b,0,none⟩), .agg #[vD], .int .i64 k, .int .i64 M] w (Rr b v l L k w):=by
 have hlm:(L.map RM.d).length=L.length:=List.length_map ..
 have hkD:k < (L.map RM.d).length:=by rw [hlm];exact hk
 have hge:(L.map RM.d)[k]=L[k].d:=List.getElem_map ..
 have RU:=Fs (hD.ruK (by rw [hlm];exact h9) hkD)
 obtain ⟨A,c,rfl,hc,hm, -⟩:=hd.now.open_
 have hRC:=Zw hd.now k hk
 obtain ⟨b0,off,A1,c1,A2,c2,A3,c3,A4,c4,rfl,hbB,e1,e2,e3,e4,m1,m2,m3,m4,hcell⟩:=hRC
 unfold maxLen at hm
 have hbw:=h.lt
 obtain ⟨W0,hW0⟩:∃W0,W0=(w.alloc (.cells #[.slice (some ⟨b0,off,none⟩) L.length c] 26)).alloc (.cells #[.int .i64 0, .slice none 0 0, .slice none 0 0] 29):=⟨_,rfl⟩
 have hb0:Below w.heap.size w W0:=by rw [hW0];exact ((Fv w.heap.size w).alloc (Fu _) _).alloc (by simp) _
 have hz0:W0.heap.size=w.heap.size+2:=by rw [hW0];simp
 have D0:Zo W0 w.heap.size 26 #[.slice (some ⟨b0,off,none⟩) L.length c]:=by rw [hW0];exact (Zo.new w _ _).alloc _
 have R0:Zo W0 (w.heap.size+1) 29 #[.int .i64 0, .slice none 0 0, .slice none 0 0]:=by
  rw [hW0]
  have:=Zo.new (w.alloc (.cells #[.slice (some ⟨b0,off,none⟩) L.length c] 26)) 29 #[.int .i64 0, .slice none 0 0, .slice none 0 0]
  simpa using this
 have s0:W0.cell? ⟨w.heap.size,0,none⟩=some (.slice (some ⟨b0,off,none⟩) L.length c):=D0.cell 0 rfl
 obtain ⟨x0,x1,x2,x3,x4,x5,x6,x7⟩:=hcell W0 (Zu hb0 hB)
 rw [hkind] at x1
 obtain ⟨W3,hW3⟩:∃W3,W3=(W0.alloc (.cells #[.string L[k].d.name, .int .i64 4, .int .i64 L[k].d.size, .bool L[k].d.little, .slice A1 L[k].d.bytes.length c1, .slice A2 L[k].d.names.length c2, .slice A3 L[k].d.tags.length c3, .slice A4 L[k].d.kids.length c4] 50)).alloc (.cells #[.int .i64 0, .slice none 0 0, .slice none 0 0] 29):=⟨_,rfl⟩
 have hb3:Below W0.heap.size W0 W3:=by rw [hW3];exact ((Fv W0.heap.size W0).alloc (Fu _) _).alloc (by simp) _
 have hb3':=Zb hb3 hb0
 have H3:Tf b lo B v l (.slice (some ⟨b0,off,none⟩) L.length c) L k w #[.string L[k].d.name, .int .i64 4, .int .i64 L[k].d.size, .bool L[k].d.little, .slice A1 L[k].d.bytes.length c1, .slice A2 L[k].d.names.length c2, .slice A3 L[k].d.tags.length c3, .slice A4 L[k].d.kids.length c4] 0 [] (.slice none 0 0) (.slice none 0 0) [] W3:=by
  refine ⟨h.below hb3',hd.below hb3',Qx.of_below hb3',D0.below hb3,R0.below hb3,?_,?_,Qg.mk0 (World.ownsRow_nil _ _ _ _) (World.ownsRow_nil _ _ _ _) (fun e=> by cases e) (fun e=> by cases e) (fun g e=> by cases e),hbw,hlo,hB,by rw [hW3];simp;omega⟩
  ·rw [hW3,←hz0];exact (Zo.new W0 _ _).alloc _
  ·rw [hW3]
   have:=Zo.new (W0.alloc (.cells #[.string L[k].d.name, .int .i64 4, .int .i64 L[k].d.size, .bool L[k].d.little, .slice A1 L[k].d.bytes.length c1, .slice A2 L[k].d.names.length c2, .slice A3 L[k].d.tags.length c3, .slice A4 L[k].d.kids.length c4] 50)) 29 #[.int .i64 0, .slice none 0 0, .slice none 0 0]
   simp only [World.size_alloc,hz0] at this
   exact this
 have HV:=Fs (Ft hd (Ft hcell (Ft e1 (Ft e2 (Ft e3 e4)))))
 have HD:=Fs hD
 have hkl:=hk
 unfold maxLen at m1 m2 m3 m4
 clear h hd hD D0 R0 hb3 hb3' hcell e1 e2 e3 e4
 go_enter func22,ntmps22
 go_upto_region 1 with fail
 rw [←hW0]
 clear hW0 hb0
 go_upto_region 3 with fail
 rw [←hW3]
 clear hW3 s0 x0 x1 x2 x3 x4 x5 x6 x7
 have HZ:=Fs (Ft hz0 hB)
 clear hz0
 obtain ⟨⟨q0,q1,q2,q3,q4,q5,q6,q7⟩,f0,f1,f2,f3,f4,f5,f6,f7⟩:=H3.rbox.c8
 obtain ⟨⟨r0,r1,r2⟩,e0,e1,e2⟩:=H3.res.c3
 obtain ⟨⟨p0,p1,p2⟩,g0,g1,g2⟩:=H3.vbox.c3
 have HVL:=Fs (val4 RU.out (by rw [hge];exact hkind))
 go_wp2_with fail
 refine (Yy _ _ _).mono ?_
 rintro e w1 ⟨rfl,rfl⟩
 obtain ⟨mm,hmm⟩:∃mm:Nat,(mm:Int)=min (M:Int) 6:=⟨(min (M:Int) 6).toNat,by omega⟩
 rw [←hmm]
 have hm3:mm≤6:=by omega
 clear hmm
 go_wp2_with fail
 refine (Qn b b v l (mm+1) W3 H3.cur (by omega) (by omega)).mono ?_
 rintro e w4 ⟨⟨z,rfl,hz0',hz1'⟩,hs,hzq,hc3⟩
 obtain ⟨zn,rfl⟩:=Int.eq_ofNat_of_zero_le hz0'
 have H4:=Fs (H3.step hs hc3)
 clear hzq hs hc3 H3 q0 q1 q2 q3 q4 q5 q6 q7 f0 f1 f2 f3 f4 f5 f6 f7 r0 r1 r2 e0 e1 e2 p0 p1 p2 g0 g1 g2
 obtain ⟨⟨q0,q1,q2,q3,q4,q5,q6,q7⟩,f0,f1,f2,f3,f4,f5,f6,f7⟩:=H4.out.rbox.c8
 obtain ⟨⟨r0,r1,r2⟩,e0,e1,e2⟩:=H4.out.res.c3
 obtain ⟨⟨p0,p1,p2⟩,g0,g1,g2⟩:=H4.out.vbox.c3
 go_wp2_with fail
 refine (Ti b v l zn w4 H4.out.cur (by omega)).mono ?_
 rintro e w5 ⟨u,xs,rfl,hxl,hown,hs4,hc4⟩
 have hzl:xs.length≤6:=by omega
 clear hxl hz0' hz1'
 have hz4:=H4.out.hz
 obtain ⟨Au,cu,rfl⟩:=Zq hown
 have H5:=Fs (H4.out.step hs4 hc4)
 have HO:=Fs (Ve hown hz4)
 clear hs4 hc4 hown H4 q0 q1 q2 q3 q4 q5 q6 q7 f0 f1 f2 f3 f4 f5 f6 f7 r0 r1 r2 e0 e1 e2 p0 p1 p2 g0 g1 g2
 obtain ⟨⟨q0,q1,q2,q3,q4,q5,q6,q7⟩,f0,f1,f2,f3,f4,f5,f6,f7⟩:=H5.out.rbox.c8
 obtain ⟨⟨r0,r1,r2⟩,e0,e1,e2⟩:=H5.out.res.c3
 obtain ⟨⟨p0,p1,p2⟩,g0,g1,g2⟩:=H5.out.vbox.c3
 go_wp2
 obtain ⟨Wf,hWf,hR,hgo,hcu,⟨x,hxd,hxv,hxo⟩,hsz⟩:=(H5.out.setB HO.out).fin
 rw [←hWf]
 obtain ⟨⟨t0,t1,t2⟩, -⟩:=hR.c3
 refine bodyPost_ret (v:= .agg #[.int .i64 0, .slice Au xs.length cu, .slice none 0 0]) (by simp [results,results22,go_sem,t0,t1,t2]) rfl ⟨x,by rw [hxv],by rw [hxd];exact HVL.out xs hzl,by rw [hxd];exact Yk hzl (by simp) (.inl rfl) (by simp),hxo,hgo,hcu⟩
end Go.Proofs.YteldgdelmaeokaaGreatDoor
