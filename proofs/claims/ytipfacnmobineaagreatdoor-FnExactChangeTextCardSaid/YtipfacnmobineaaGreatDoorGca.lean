/- Out of Chg, ChgSz, ChgTo, ChgEq: the walks and plain laws that the claim needs. No condition but those that each theorem names. -/
import Derived.Test.YtipfacnmobineaaGreatDoorGa
import Derived.Test.YtipfacnmobineaaGreatDoorGf
import Derived.WalkSpells
import Derived.WalkLawsBesides
import Derived.Test.YtipfacnmobineaaGreatDoorGv
import Derived.Deep.RegionHeld3
set_option linter.unusedSimpArgs false
set_option linter.unusedVariables false
namespace Go.Proofs.YtipfacnmobineaaGreatDoor
open Go.ChangeShapes Go.WideShapes Go.ChangeAt Go.RowKit Go.Deep
structure ChD where
 path:ByteArray
 part:Val
structure CM where
 path:ByteArray
 part:VM
def CM.d (c:CM):ChD:=⟨c.path,c.part.d⟩
@[simp] theorem CM.d_path (c:CM):c.d.path=c.path:=rfl
@[simp] theorem CM.d_part (c:CM):c.d.part=c.part.d:=rfl
def ChD.size (c:ChD):Nat:=c.path.size+c.part.size
def chSizes:List ChD→Nat
 | []=> 0
 |c::l=> 1+c.size+chSizes l
theorem chSizes_append (l l':List ChD):chSizes (l++l')=chSizes l+chSizes l':=by
 induction l with
 |nil=> simp [chSizes]
 |cons x l ih=> rw [List.cons_append,chSizes,chSizes,ih];omega
theorem chSizes_length:∀l:List ChD,l.length≤chSizes l
 | []=> Nat.zero_le _
 |x::l=> by have:=chSizes_length l;rw [chSizes,List.length_cons];omega
theorem chSizes_mem {x:ChD} {l:List ChD} (h:x∈l):1+x.size≤chSizes l:=by
 induction l with
 |nil=> simp at h
 |cons y l ih=>
  rw [chSizes]
  simp only [List.mem_cons] at h
  rcases h with rfl|h
  ·omega
  ·have:=ih h;omega
theorem chSizes_take_le (l:List ChD) (j:Nat) (hj:j≤l.length):chSizes (l.take j)+(l.length - j)≤chSizes l:=by
 have h:chSizes l=chSizes (l.take j)+chSizes (l.drop j):=by rw [←chSizes_append,List.take_append_drop]
 have h2:=chSizes_length (l.drop j)
 rw [List.length_drop] at h2
 omega
theorem chSizes_take_succ (l:List ChD) (k:Nat) (hk:k < l.length):chSizes (l.take (k+1))=chSizes (l.take k)+1+l[k].size:=by
 rw [List.take_succ_eq_append_getElem hk,chSizes_append,chSizes,chSizes];omega
def cmCells (c:CM):List Value:= [.string c.path, .int .i64 c.part.n,c.part.vb,c.part.vi]
theorem cmCells_length (c:CM):(cmCells c).length=4:=rfl
def cmV (c:CM):Value:= .agg #[.string c.path, .int .i64 c.part.n,c.part.vb,c.part.vi]
def SlC (w:World) (B:Nat) (v:Value) (l:List CM):Prop:=Sl w B 4 v l.length (l.flatMap cmCells)∧∀x∈l,x.part.rd w B
theorem SlC.keep {w w':World} {B:Nat} {v:Value} {l:List CM} (h:SlC w B v l) (hk:∀b o,b < B→w'.cell? ⟨b,o,none⟩=w.cell? ⟨b,o,none⟩):SlC w' B v l:=⟨h.1.keep hk,fun x hx=> (h.2 x hx).keep hk⟩
theorem SlC.below {w w':World} {B:Nat} {v:Value} {l:List CM} (h:SlC w B v l) (hb:Below B w w'):SlC w' B v l:=⟨h.1.below hb,fun x hx=> (h.2 x hx).bel hb⟩
theorem SlC.more {w:World} {B B':Nat} {v:Value} {l:List CM} (h:SlC w B v l) (hB:B≤B'):SlC w B' v l:=⟨h.1.more hB,fun x hx=> (h.2 x hx).more hB⟩
theorem SlC.open_ {w:World} {B:Nat} {v:Value} {l:List CM} (h:SlC w B v l):∃A c,v= .slice A l.length c∧l.length≤c∧c≤maxLen∧
  (∀k (hk:k < l.length),∃b off,A=some ⟨b,off,none⟩∧b < B∧w.cell? ⟨b,off+k*4,none⟩=some (.string l[k].path)∧w.cell? ⟨b,off+k*4+1,none⟩=some (.int .i64 l[k].part.n)∧w.cell? ⟨b,off+k*4+2,none⟩=some l[k].part.vb∧w.cell? ⟨b,off+k*4+3,none⟩=some l[k].part.vi):=by
 obtain ⟨_,A,c,rfl,hc,hm,hr⟩:=h.1
 refine ⟨A,c,rfl,hc,hm,fun k hk=> ?_⟩
 obtain ⟨b,off,e,hb,hcell⟩:=hr (by omega)
 have hat:∀j u,j < 4→(cmCells l[k])[j]?=some u→w.cell? ⟨b,off+k*4+j,none⟩=some u:=fun j u hj hu=> by
  rw [Nat.add_assoc];exact hcell (k*4+j) u (by rw [flatMap_at cmCells 4 cmCells_length l k j hk hj];exact hu)
 exact ⟨b,off,e,hb,hat 0 _ (by omega) rfl,hat 1 _ (by omega) rfl,hat 2 _ (by omega) rfl,hat 3 _ (by omega) rfl⟩
theorem SlC.at_ {w:World} {B:Nat} {v:Value} {l:List CM} (h:SlC w B v l) (k:Nat) (hk:k < l.length):∃A1 c1 A2 c2,l[k].part.vb= .slice A1 l[k].part.b.length c1∧l[k].part.vi= .slice A2 l[k].part.items.length c2∧l[k].part.b.length≤maxLen∧l[k].part.items.length≤maxLen:=by
 have hr:=h.2 l[k] (List.getElem_mem hk)
 obtain ⟨A1,c1,e1,h1,h2, -⟩:=hr.bytes.open_
 obtain ⟨A2,c2,e2,h3,h4, -⟩:=hr.its.open_
 exact ⟨A1,c1,A2,c2,e1,e2,by omega,by omega⟩
def ChD.ok (c:ChD):Prop:=c.path.size≤maxLen∧c.part.ok
section
variable {H:Type} {enc:TypeId × Value→H} {w:World}
set_option maxRecDepth 100000 in
theorem trod_chg (n:Nat) (cs:List Value) (y:DataW H × List MemPlace) (h:DataW.trod enc Tryz.prog w 0 (fun _=> true) true n 54 cs=some y):∃x:CM,cs=cmCells x∧x.part.rd w w.heap.size∧x.d.ok:=by
 obtain ⟨xs,m,hn,_,hlen,hxl,hg⟩:=DataW.trod_struct Tryz.underlying54 h
 have hlen4:cs.length=4:=hlen
 match cs,hlen4 with
 | [c0,c1,c2,c3],_=>
  match xs,hxl with
  | [y0,y1],_=>
   have h0:=hg 0 _ rfl
   have h1:=hg 1 _ rfl
   obtain ⟨a,e0,_,ha⟩:=DataW.trod_string Tryz.underlying9 h0
   have f1:DataW.trod enc Tryz.prog w 0 (fun _=> true) true _ 28 [c1,c2,c3]=some y1:=h1
   obtain ⟨x,hx,hr,hk⟩:=trod_val _ _ _ f1
   have g0: [c0]= [.string a]:=e0
   simp only [List.cons.injEq,and_true] at g0
   subst g0
   exact ⟨⟨a,x⟩,by rw [hx];rfl,hr,ha,hk⟩
set_option maxRecDepth 100000 in
theorem trod_changes {fuel:Nat} {v:Value} {y:DataW H × List MemPlace} (h:DataW.trod enc Tryz.prog w 0 (fun _=> true) true fuel 29 [v]=some y):∃l:List CM,SlC w w.heap.size v l∧∀x∈l,x.d.ok:=by
 obtain ⟨l,hl,hq⟩:=open_list Tryz.underlying29 (by kernel_rfl) (by omega) cmCells (fun x:CM=> x.part.rd w w.heap.size∧x.d.ok) cmCells_length h (fun n cs' y' hy=> trod_chg n cs' y' hy)
 exact ⟨l,⟨hl,fun x hx=> (hq x hx).1⟩,fun x hx=> (hq x hx).2⟩
end
end Go.Proofs.YtipfacnmobineaaGreatDoor
namespace Go.Proofs.YtipfacnmobineaaGreatDoor
open Go.RowKit
set_option maxHeartbeats 1000000 in
theorem szChange_any (c:CM) (B:Nat) (n:Int) (w:World) (h:c.part.rd w B) (hB:B≤w.heap.size) (ok:c.path.size≤maxLen) (h0:0≤n) (h1:n≤1048576):
  Calls Tryz.prog 24 #[cmV c, .int .i64 n] w (SzV c.d.size n w):=by
 obtain ⟨p,nn,bb,vb,vi,ll⟩:=c
 obtain ⟨Av,cv,ev, -⟩:=h.bytes.open_
 obtain ⟨Aw,cw,ew, -⟩:=h.its.open_
 simp only [VM.vb_mk,VM.b_mk,VM.vi_mk,VM.items_mk] at ev ew ok h
 subst ev ew
 unfold maxLen at ok
 unfold CM.d ChD.size
 dsimp only
 have hB1:=(Below.refl w.heap.size w).alloc (Nat.le_refl _) (.cells #[.string p, .int .i64 nn, .slice Av bb.length cv, .slice Aw ll.length cw] 54)
 have h2:=h.bel (hB1.mono hB)
 obtain ⟨s,hs⟩:∃s,s=(VM.mk nn bb (.slice Av bb.length cv) (.slice Aw ll.length cw) ll).d.size:=⟨_,rfl⟩
 rw [←hs]
 have HX:=Lib.hid (And.intro h2 hs)
 clear h h2 hs
 by_cases hx:n - p.size < 0
 ·have H:=Lib.hid (show leftOf n (p.size+s)= -1 from leftOf_neg (by omega))
  unfold cmV
  simp only [VM.n_mk,VM.vb_mk,VM.vi_mk]
  go_enter Tryz.func24,Tryz.ntmps24
  go_wp2
  go_ret
  exact ⟨ret_int H.out.symm,hB1⟩
 ·have hcall:=szValue_any _ _ (n - p.size) _ HX.out.1 (by simp;omega) (by omega) (by omega)
  rw [←HX.out.2] at hcall
  have HC:=Lib.hid hcall
  clear hcall
  unfold cmV
  simp only [VM.n_mk,VM.vb_mk,VM.vi_mk]
  go_enter Tryz.func24,Tryz.ntmps24
  go_wp2_with fail
  refine HC.out.mono ?_
  rintro e w2 ⟨rfl,hb2⟩
  have HB:=Lib.hid (below_step hb2 hB1)
  rcases leftOf_cases (n - p.size) s with e1|⟨p1,e1⟩
  ·have e2:(n - p.size) - s < 0:=by unfold leftOf at e1;split at e1 <;> omega
   have HF:=Lib.hid (show leftOf n (p.size+s)= -1 from leftOf_neg (by omega))
   rw [e1]
   clear e1 e2 hb2 hB1
   go_wp2
   go_ret
   exact ⟨ret_int HF.out.symm,HB.out⟩
  ·have HF:=Lib.hid (show leftOf n (p.size+s)=leftOf (n - p.size) s by rw [e1,leftOf_pos (by omega)];omega)
   generalize leftOf (n - p.size) s=r at*
   clear e1 hb2 hB1
   go_wp2
   go_ret
   exact ⟨ret_int HF.out.symm,HB.out⟩
set_option maxHeartbeats 1000000 in
theorem szChangeS_any (v:Value) (l:List CM) (B:Nat) (n:Int) (w:World) (h:SlC w B v l) (hB:B≤w.heap.size) (ok:∀c∈l,c.path.size≤maxLen) (h0:0≤n) (h1:n≤1048576):
  Calls Tryz.prog 8 #[v, .int .i64 n] w (SzV (chSizes (l.map CM.d)) n w):=by
 have h2:=h.2
 obtain ⟨A,c,rfl,hc,hm,hcell⟩:=h.open_
 unfold maxLen at hm
 clear h
 have hlen:(l.map CM.d).length=l.length:=List.length_map ..
 have hll:=chSizes_length (l.map CM.d)
 rw [hlen] at hll
 have OK:=Lib.hid ok
 clear ok
 by_cases hbig:n - l.length < 0
 ·have H:=Lib.hid (show leftOf n (chSizes (l.map CM.d))= -1 from leftOf_neg (by omega))
  clear hcell h2
  go_enter Tryz.func8,Tryz.ntmps8
  go_wp2
  go_ret
  exact ⟨ret_int H.out.symm,Below.refl _ _⟩
 ·have HT:=Lib.hid (And.intro (chSizes_take_le (l.map CM.d)) (chSizes_take_succ (l.map CM.d)))
  have HL:=Lib.hid (And.intro hlen hll)
  clear hlen hll
  go_enter Tryz.func8,Tryz.ntmps8
  go_wp2
  go_loopw [1,5] (fun q i wr=> ∃(k:Nat) (r:Int),k≤l.length∧i= .int .i64 k∧q= .int .i64 r∧0≤r∧r≤n∧Hid (r=n - l.length+k - chSizes ((l.map CM.d).take k))∧Below w.heap.size w wr) (fun _ i _=> l.length - (intOf i).toNat)
  case atStart=> exact ⟨0,_,Nat.zero_le _,rfl,rfl,by omega,by omega,Lib.hid (by rw [List.take_zero,chSizes];simp),Below.refl _ _⟩
  case round=>
   obtain ⟨k,r,hk,rfl,rfl,hr0,hr1,HR,hb⟩:=hrel
   by_cases hlt:k < l.length
   ·obtain ⟨b,off,rfl,hbB,hc0,hc1,hc2,hc3⟩:=hcell k hlt
    have hbm:=hb.mono hB
    have hd0:wr.cell? ⟨b,off+k*4,none⟩=some (.string l[k].path):=(hbm.cell (p:=⟨b,off+k*4,none⟩) hbB).trans hc0
    have hd1:wr.cell? ⟨b,off+k*4+1,none⟩=some (.int .i64 l[k].part.n):=(hbm.cell (p:=⟨b,off+k*4+1,none⟩) hbB).trans hc1
    have hd2:wr.cell? ⟨b,off+k*4+2,none⟩=some l[k].part.vb:=(hbm.cell (p:=⟨b,off+k*4+2,none⟩) hbB).trans hc2
    have hd3:wr.cell? ⟨b,off+k*4+3,none⟩=some l[k].part.vi:=(hbm.cell (p:=⟨b,off+k*4+3,none⟩) hbB).trans hc3
    have r1:=(h2 _ (List.getElem_mem hlt)).bel hbm
    have hsz:=hb.size
    clear hcell hbm h2 hc0 hc1 hc2 hc3
    go_wp2_with fail
    refine (szChange_any l[k] B r _ r1 (by omega) (OK.out _ (List.getElem_mem hlt)) hr0 (by omega)).mono ?_
    rintro e w2 ⟨rfl,hb1⟩
    have H:=Lib.hid (below_step hb1 hb)
    clear hd0 hd1 hd2 hd3 hb hb1 r1
    have hs1:=HT.out.2 k (by rw [HL.out.1];exact hlt)
    rw [List.getElem_map] at hs1
    have hs2:=HT.out.1 (k+1) (by rw [HL.out.1];omega)
    rw [HL.out.1] at hs2
    have hR:=HR.out
    rcases leftOf_cases r l[k].d.size with e1|⟨p1,e1⟩
    ·have e2:r - l[k].d.size < 0:=by unfold leftOf at e1;split at e1 <;> omega
     have HF:=Lib.hid (show leftOf n (chSizes (l.map CM.d))= -1 from leftOf_neg (by omega))
     rw [e1]
     clear hs1 hs2 hR e1 e2 HR
     go_wp2
     go_ret
     exact ⟨ret_int HF.out.symm,H.out⟩
    ·obtain ⟨x1,hx1⟩:∃x,x=leftOf r l[k].d.size:=⟨_,rfl⟩
     rw [←hx1] at e1 p1 ⊢
     have HN:=Lib.hid (show x1=n - l.length+((k+1:Nat):Int) - chSizes ((l.map CM.d).take (k+1)) by omega)
     have hle:x1≤n:=by omega
     clear hs1 hs2 hR e1 HR hx1
     go_wp2
     go_roundw
     case rel=> exact ⟨k+1,x1,by omega,by go_num,rfl,by omega,by omega,HN,H.out⟩
     case measure=> simp [intOf];omega
   ·have hkl:k=l.length:=by omega
    have hF:leftOf n (chSizes (l.map CM.d))=r:=by
     have hR:=HR.out
     rw [hkl,←HL.out.1,List.take_length,HL.out.1] at hR
     rw [leftOf_pos (by omega)]
     omega
    have HF:=Lib.hid hF
    clear hcell h2 hF hkl HR
    go_wp2
    go_ret
    exact ⟨ret_int HF.out.symm,hb⟩
end Go.Proofs.YtipfacnmobineaaGreatDoor
namespace Go.Proofs.YtipfacnmobineaaGreatDoor
open Go.RowKit
def OwC1 (X:ChD) (lo hi:Nat) (w:World) (v:Value):Prop:=∃c:CM,c.d=X∧v=cmV c∧OwV1 c.part lo hi w
theorem OwC1.keep {X:ChD} {lo hi lo' hi':Nat} {w w':World} {v:Value} (h:OwC1 X lo hi w v) (ho:Out lo' hi' w w') (hd:hi≤lo'∨hi'≤lo):OwC1 X lo hi w' v:=by
 obtain ⟨c,h1,h2,h3⟩:=h
 exact ⟨c,h1,h2,h3.keep ho hd⟩
def OwC (X:List ChD) (lo hi:Nat) (w:World) (v:Value):Prop:=
 ∃l:List CM,l.map CM.d=X∧w.ownsRow lo 58 4 v l.length (l.flatMap cmCells)∧(∀x∈l,x.part.own lo w)∧(v.ownBlock.toList++VM.bkss (l.map CM.part)).Nodup∧∀g∈v.ownBlock.toList++VM.bkss (l.map CM.part),lo≤g∧g < hi
theorem OwC.keep {X:List ChD} {lo hi lo' hi':Nat} {w w':World} {v:Value} (h:OwC X lo hi w v) (ho:Out lo' hi' w w') (hd:hi≤lo'∨hi'≤lo):OwC X lo hi w' v:=by
 obtain ⟨l,h1,h2,h3,h4,h5⟩:=h
 have hb:∀g,g < w.heap.size→lo≤g∧g < hi→w'.heap[g]?=w.heap[g]?:=fun g hg hr=> ho.block g hg (by omega)
 exact ⟨l,h1,own_row_keep h2 fun g hg=> hb g (h2.lt g hg).2 (h5 g (by rw [hg];simp)),fun x hx=> (h3 x hx).keep fun g hg=> hb g ((h3 x hx).lt g hg).2 (h5 g (List.mem_append_right _ (VM.mem_bkss (List.mem_map_of_mem hx) hg))),h4,h5⟩
theorem OwC.wide {X:List ChD} {lo hi lo' hi':Nat} {w:World} {v:Value} (h:OwC X lo hi w v) (h1:lo'≤lo) (h2:hi≤hi'):OwC X lo' hi' w v:=by
 obtain ⟨l,a,b,c,d,e⟩:=h
 exact ⟨l,a,own_base b h1,fun x hx=> (c x hx).base h1,d,fun g hg=> by have:=e g hg;omega⟩
theorem OwC.of_parts {l:List CM} {lo m hi:Nat} {w:World} {v:Value} (hr:Row lo m 58 4 l.length (l.flatMap cmCells) w v) (hlm:lo≤m) (hmh:m≤hi) (ho:OwVs (l.map CM.part) m hi w):OwC (l.map CM.d) lo hi w v:=by
 have q1:∀g∈v.ownBlock.toList,lo≤g∧g < m:=fun g hg=> ⟨(hr.1.lt g (Option.mem_toList.1 hg)).1,hr.2 g (Option.mem_toList.1 hg)⟩
 refine ⟨l,rfl,hr.1,fun x hx=> (ho.own x.part (List.mem_map_of_mem hx)).base hlm,?_,fun g hg=> ?_⟩
 ·rw [List.nodup_append]
  refine ⟨by cases v.ownBlock <;> simp,ho.nd,fun a ha c hc e=> ?_⟩
  have:=q1 a ha
  have:=ho.rng c hc
  omega
 ·rw [List.mem_append] at hg
  rcases hg with hg|hg
  ·have:=q1 g hg;omega
  ·have:=ho.rng g hg;omega
theorem OwC.slc {X:List ChD} {lo hi:Nat} {w:World} {v:Value} (h:OwC X lo hi w v):∃l:List CM,l.map CM.d=X∧SlC w w.heap.size v l:=by
 obtain ⟨l,h1,h2,h3,h4,h5⟩:=h
 exact ⟨l,h1,Sl.of_own h2,fun x hx=> (h3 x hx).rd⟩
theorem OwC.slice {X:List ChD} {lo hi:Nat} {w:World} {v:Value} (h:OwC X lo hi w v):∃A c,v= .slice A X.length c:=by
 obtain ⟨l,h1,h2,h3,h4,h5⟩:=h
 obtain ⟨A,c,e⟩:=own_slice h2
 exact ⟨A,c,by rw [e,←h1,List.length_map]⟩
theorem OwC.bal {X:List ChD} {lo hi:Nat} {w:World} {v:Value} (h:OwC X lo hi w v) (o:Obj):OwC X lo hi (w.alloc o) v:=h.keep (Out.of_below ((Below.refl _ _).alloc (Nat.le_refl _) o) 0 0) (.inr (Nat.zero_le _))
theorem Tryz.info_change:(Tryz.prog.info? 58).map (fun i=> (i.zero,i.size,i.bytes))=some (some (.agg #[.string ByteArray.empty, .int .i64 0, .slice none 0 0, .slice none 0 0]),4,72):=by kernel_rfl
set_option maxHeartbeats 2000000 in
set_option maxRecDepth 100000 in
theorem toChange_any (c:CM) (B:Nat) (w:World) (h:c.part.rd w B) (hB:B≤w.heap.size) (hs:c.part.d.size≤1048576):
  Calls Tryz.prog 26 #[cmV c] w (Made (OwC1 c.d) w):=by
 obtain ⟨p,nn,bb,vb,vi,ll⟩:=c
 obtain ⟨Av,cv,ev, -⟩:=h.bytes.open_
 obtain ⟨Aw,cw,ew, -⟩:=h.its.open_
 simp only [VM.vb_mk,VM.b_mk,VM.vi_mk,VM.items_mk] at ev ew h hs
 subst ev ew
 obtain ⟨X,hX⟩:∃X,(VM.mk nn bb (.slice Av bb.length cv) (.slice Aw ll.length cw) ll).d=X:=⟨_,rfl⟩
 unfold CM.d
 dsimp only
 rw [hX] at hs ⊢
 have HX:=Lib.hid (And.intro h (And.intro hX hs))
 clear h hX hs
 have hw0:Below w.heap.size w ((((w.alloc (.cells #[.string p, .int .i64 nn, .slice Av bb.length cv, .slice Aw ll.length cw] 54)).alloc (.cells #[.string ⟨#[]⟩, .int .i64 0, .slice none 0 0, .slice none 0 0] 58)).alloc (.cells #[.string p, .int .i64 0, .slice none 0 0, .slice none 0 0] 58))):=
  (((Below.refl w.heap.size w).alloc (Nat.le_refl _) _).alloc (by simp) _).alloc (by simp;omega) _
 obtain ⟨W0,hW0⟩:∃W0,W0=((((w.alloc (.cells #[.string p, .int .i64 nn, .slice Av bb.length cv, .slice Aw ll.length cw] 54)).alloc (.cells #[.string ⟨#[]⟩, .int .i64 0, .slice none 0 0, .slice none 0 0] 58)).alloc (.cells #[.string p, .int .i64 0, .slice none 0 0, .slice none 0 0] 58))):=⟨_,rfl⟩
 rw [←hW0] at hw0
 have hz0:W0.heap.size=w.heap.size+3:=by rw [hW0];simp
 have hcall:=toValue_any _ B W0 (HX.out.1.bel (hw0.mono hB)) (by omega) (by rw [HX.out.2.1];exact HX.out.2.2)
 rw [HX.out.2.1] at hcall
 have HC:=Lib.hid hcall
 clear hcall
 unfold cmV
 simp only [VM.n_mk,VM.vb_mk,VM.vi_mk]
 go_enter Tryz.func26,Tryz.ntmps26
 go_wp2_with fail
 rw [←hW0]
 refine HC.out.mono ?_
 rintro e W1 ⟨v,rfl,own,bel⟩
 obtain ⟨A1,c1,A2,c2,rfl⟩:=own.agg
 have b1:=below_step bel hw0
 have z1:=bel.size
 have g0:W1.cell? ⟨w.heap.size+1+1,0,none⟩=some (.string p):=cell_later bel (by rw [hW0];simp [go_sem])
 have g1:W1.cell? ⟨w.heap.size+1+1,1,none⟩=some (.int .i64 0):=cell_later bel (by rw [hW0];simp [go_sem])
 have g2:W1.cell? ⟨w.heap.size+1+1,2,none⟩=some (.slice none 0 0):=cell_later bel (by rw [hW0];simp [go_sem])
 have g3:W1.cell? ⟨w.heap.size+1+1,3,none⟩=some (.slice none 0 0):=cell_later bel (by rw [hW0];simp [go_sem])
 have r0:W1.cell? ⟨w.heap.size+1,0,none⟩=some (.string ⟨#[]⟩):=cell_later bel (by rw [hW0];simp [go_sem])
 have r1:W1.cell? ⟨w.heap.size+1,1,none⟩=some (.int .i64 0):=cell_later bel (by rw [hW0];simp [go_sem])
 have r2:W1.cell? ⟨w.heap.size+1,2,none⟩=some (.slice none 0 0):=cell_later bel (by rw [hW0];simp [go_sem])
 have r3:W1.cell? ⟨w.heap.size+1,3,none⟩=some (.slice none 0 0):=cell_later bel (by rw [hW0];simp [go_sem])
 have fr:∀b,b=w.heap.size+1∨b=w.heap.size+1+1→∀i,i < 4→W1.frozen? ⟨b,i,none⟩=false:=by
  intro b hb i hi
  refine (bel.frozen (p:=⟨b,i,none⟩) (by show b < W0.heap.size;omega)).trans ?_
  rw [hW0]
  have:i=0∨i=1∨i=2∨i=3:=by omega
  rcases hb with rfl|rfl <;> rcases this with rfl|rfl|rfl|rfl <;> simp [go_sem]
 have f1:=fr _ (.inr rfl) 1 (by omega)
 have f2:=fr _ (.inr rfl) 2 (by omega)
 have f3:=fr _ (.inr rfl) 3 (by omega)
 have k0:=fr _ (.inl rfl) 0 (by omega)
 have k1:=fr _ (.inl rfl) 1 (by omega)
 have k2:=fr _ (.inl rfl) 2 (by omega)
 have k3:=fr _ (.inl rfl) 3 (by omega)
 have HO:=Lib.hid own
 have HB:=Lib.hid b1
 clear fr own b1 bel hW0 hw0 HC
 go_wp2
 refine bodyPost_ret (v:= .agg #[.string p, .int .i64 X.n, .slice A1 X.b.length c1, .slice A2 X.items.length c2]) (by simp [results,Tryz.results26,go_sem,g0,g1,g2,g3,r0,r1,r2,r3]) rfl ⟨_,rfl,?_,?_⟩
 all_goals clear f1 f2 f3 k0 k1 k2 k3 g0 g1 g2 g3 r0 r1 r2 r3
 ·obtain ⟨x,hx,hv,o⟩:=HO.out
  have hv2:=hv
  unfold vmV at hv2
  simp only [Value.agg.injEq,Array.mk.injEq,List.cons.injEq,and_true,Value.int.injEq,true_and] at hv2
  refine ⟨⟨p,x⟩,by unfold CM.d;rw [hx],by unfold cmV;rw [←hv2.1,←hv2.2.1,←hv2.2.2],(o.keep (lo':=w.heap.size+1) (hi':=w.heap.size+3) ?_ (by omega)).wide (by omega) (by simp)⟩
  repeat (refine Out.setCell ?_ (by omega) (by omega) _)
  exact Out.refl _ _ _
 ·have e1:w.heap.size≤w.heap.size+1+1:=by omega
  have e2:w.heap.size≤w.heap.size+1:=by omega
  exact ((((((HB.out.setCell (p:=⟨w.heap.size+1+1,1,none⟩) e1 _).setCell (p:=⟨w.heap.size+1+1,2,none⟩) e1 _).setCell (p:=⟨w.heap.size+1+1,3,none⟩) e1 _).setCell (p:=⟨w.heap.size+1,0,none⟩) e2 _).setCell (p:=⟨w.heap.size+1,1,none⟩) e2 _).setCell (p:=⟨w.heap.size+1,2,none⟩) e2 _).setCell (p:=⟨w.heap.size+1,3,none⟩) e2 _
set_option maxHeartbeats 2000000 in
set_option maxRecDepth 100000 in
theorem toChangeS_any (v:Value) (l:List CM) (B:Nat) (w:World) (h:SlC w B v l) (hB:B≤w.heap.size) (hl:l.length≤1048576) (hs:∀x∈l,x.part.d.size≤1048576):
  Calls Tryz.prog 12 #[v] w (Made (OwC (l.map CM.d)) w):=by
 obtain ⟨i0,hi,hz0,hz1,hz2⟩:=info_parts Tryz.info_change
 have h2:=h.2
 obtain ⟨A,c,rfl,hc,hm,hcell⟩:=h.open_
 unfold maxLen at hm
 have hby:i0.bytes*l.length≤281474976710656:=by rw [hz2];omega
 have HS:=Lib.hid hs
 clear h hs
 go_enter Tryz.func12,Tryz.ntmps12
 go_wp2_with (at_make;refine wpList_make_full _ rfl _ _ 43 rfl w.heap.size 58 i0 (.agg #[.string ByteArray.empty, .int .i64 0, .slice none 0 0, .slice none 0 0]) 4 Tryz.underlying43 hi hz0 hz1 _ _ _ _ l.length rfl rfl rfl rfl hby (by unfold maxLen;omega) (Nat.le_refl _) ?_;intro w1 hown hg)
 have hbel:Below w.heap.size w w1:=below_grown hg (Nat.le_refl _) (by intro k hk;cases hk)
 obtain ⟨xs,hxs⟩:∃xs,xs=(madeCells (Value.cells (.agg #[.string ByteArray.empty, .int .i64 0, .slice none 0 0, .slice none 0 0])) (l.length*4)).toList:=⟨_,rfl⟩
 rw [←hxs] at hown
 have hlt1:w.heap.size+1≤w1.heap.size:=(hown.lt w.heap.size rfl).2
 clear hg hxs
 go_loopw [4] (fun i wr=> ∃k:Nat,k≤l.length∧i= .int .i64 k∧w.heap.size+1≤wr.heap.size∧(∃(D:List CM) (ys:List Value),D.map CM.d=(l.take k).map CM.d∧wr.ownsRow w.heap.size 58 4 (.slice (some ⟨w.heap.size,0,none⟩) l.length l.length) l.length (D.flatMap cmCells++ys)∧OwVs (D.map CM.part) (w.heap.size+1) wr.heap.size wr)∧Below w.heap.size w wr) (fun i _=> l.length - (intOf i).toNat)
 case atStart=> exact ⟨0,Nat.zero_le _,rfl,hlt1,⟨[],xs,rfl,hown,OwVs.nil _ _ _⟩,hbel⟩
 case round=>
  clear hown hbel hlt1
  obtain ⟨k,hk,rfl,hwr,⟨D,ys,hD,hownr,hrs⟩,hb⟩:=hrel
  have hDl:D.length=k:=by have:=congrArg List.length hD;simp at this;omega
  by_cases hlt:k < l.length
  ·obtain ⟨b,off,rfl,hbB,hc0,hc1,hc2,hc3⟩:=hcell k hlt
   have hbm:=hb.mono hB
   have hd0:wr.cell? ⟨b,off+k*4,none⟩=some (.string l[k].path):=(hbm.cell (p:=⟨b,off+k*4,none⟩) hbB).trans hc0
   have hd1:wr.cell? ⟨b,off+k*4+1,none⟩=some (.int .i64 l[k].part.n):=(hbm.cell (p:=⟨b,off+k*4+1,none⟩) hbB).trans hc1
   have hd2:wr.cell? ⟨b,off+k*4+2,none⟩=some l[k].part.vb:=(hbm.cell (p:=⟨b,off+k*4+2,none⟩) hbB).trans hc2
   have hd3:wr.cell? ⟨b,off+k*4+3,none⟩=some l[k].part.vi:=(hbm.cell (p:=⟨b,off+k*4+3,none⟩) hbB).trans hc3
   have hr2:=(h2 _ (List.getElem_mem hlt)).bel hbm
   have hsz:=hb.size
   clear hcell hc0 hc1 hc2 hc3 hbm
   go_wp2_with fail
   refine (toChange_any l[k] B _ hr2 (by omega) (HS.out _ (List.getElem_mem hlt))).mono ?_
   rintro e w2 ⟨_,rfl,⟨y,hy,rfl,hown3⟩,hb1⟩
   have hrs2:=OwVs.snoc (hrs.keep (Out.of_below hb1 0 0) (.inr (Nat.zero_le _))) hown3 (Nat.le_refl _) (by omega) hb1.size
   obtain ⟨yp,yn,yb,vb,vi,yl⟩:=y
   obtain ⟨A1,c1,ev1⟩:=own_slice hown3.own.bytes
   obtain ⟨A2,c2,ev2⟩:=own_slice hown3.own.row
   simp only [VM.vb_mk,VM.b_mk,VM.vi_mk,VM.items_mk] at ev1 ev2
   subst ev1 ev2
   unfold cmV
   simp only [VM.n_mk,VM.vb_mk,VM.vi_mk]
   have hown2:=own_below hownr hb1 (Nat.le_refl _)
   have hb2:=hb.trans (hb1.mono (by omega))
   have hz2':=hb1.size
   clear hd0 hd1 hd2 hd3 hownr hb hb1 hr2 hrs hown3
   have hold:∀j,j < 4→∃u,w2.cell? ⟨w.heap.size,k*4+j,none⟩=some u:=by
    intro j hj
    rw [hown2.cellAt (k*4+j) (by omega)]
    exact ⟨_,List.getElem?_eq_getElem (by rw [hown2.1];omega)⟩
   obtain ⟨u0',hu0⟩:=hold 0 (by omega)
   have hf0:=hown2.frozenAt (k*4)
   obtain ⟨u1',hu1⟩:=hold 1 (by omega)
   have hf1:=hown2.frozenAt (k*4+1)
   obtain ⟨u2',hu2⟩:=hold 2 (by omega)
   have hf2:=hown2.frozenAt (k*4+2)
   obtain ⟨u3',hu3⟩:=hold 3 (by omega)
   have hf3:=hown2.frozenAt (k*4+3)
   rw [Nat.add_zero] at hu0
   clear hold
   have hDc:(D.flatMap cmCells).length=k*4:=by rw [flatMap_len cmCells 4 cmCells_length,hDl]
   have hys:4≤ys.length:=by
    have:=hown2.1
    rw [List.length_append,hDc] at this
    omega
   obtain ⟨Y,hY⟩:∃Y:CM,Y=⟨yp, .mk yn yb (.slice A1 yb.length c1) (.slice A2 yl.length c2) yl⟩:=⟨_,rfl⟩
   have hYc:cmCells Y= [.string yp, .int .i64 yn, .slice A1 yb.length c1, .slice A2 yl.length c2]:=by rw [hY];rfl
   have hp:=own_putCells (cmCells Y) _ _ ys (by rw [cmCells_length];exact hys) hown2
   rw [hDc] at hp
   have e1:D.flatMap cmCells++cmCells Y=(D++ [Y]).flatMap cmCells:=by simp
   rw [e1] at hp
   have hpb:=below_putCells (g:=w.heap.size) (cmCells Y) _ (k*4) hb2 (Nat.le_refl _)
   have hpo:Out w.heap.size (w.heap.size+1) w2 _:=Out.of_grown (grownBy_putCells (g:=w.heap.size) (cmCells Y) w2 (k*4)) (fun g hg=> by cases hg;omega)
   have hps:=hrs2.keep hpo (.inr (Nat.le_refl _))
   have hpe:=putCells_size w.heap.size (cmCells Y) w2 (k*4)
   rw [←hpe] at hps
   have hsize:w.heap.size+1≤(putCells w2 w.heap.size (k*4) (cmCells Y)).heap.size:=by rw [hpe];omega
   have hps:OwVs ((D++ [Y]).map CM.part) (w.heap.size+1) (putCells w2 w.heap.size (k*4) (cmCells Y)).heap.size (putCells w2 w.heap.size (k*4) (cmCells Y)):=by
    rw [List.map_append,hY];rw [hY] at hps;exact hps
   have HD:=Lib.hid (show (D++ [Y]).map CM.d=(l.take (k+1)).map CM.d by
    rw [List.map_append,hD,List.take_succ_eq_append_getElem hlt,List.map_append];simp only [List.map_cons,List.map_nil];rw [←hy,hY])
   have HP:=Lib.hid (And.intro hp (And.intro hps (And.intro hpb hsize)))
   rw [hYc] at HP
   clear hp hps hpb hpo hpe hys hown2 hb2 hrs2 hD hDl hDc e1 hy hsize hwr hYc hY
   go_wp2
   go_roundw
   case rel=> exact ⟨k+1,by omega,by go_num,HP.out.2.2.2,⟨_,_,HD.out,HP.out.1,HP.out.2.1⟩,HP.out.2.2.1⟩
   case measure=> simp [intOf];omega
  ·have hkl:k=l.length:=by omega
   have hys:ys= []:=by
    have:=hownr.1
    rw [List.length_append,flatMap_len cmCells 4 cmCells_length,hDl] at this
    exact List.eq_nil_of_length_eq_zero (by omega)
   rw [hkl,List.take_length] at hD
   have hDl':D.length=l.length:=by omega
   rw [hys,List.append_nil] at hownr
   have H:=Lib.hid (And.intro hD (And.intro hownr (And.intro hrs hb)))
   have HL:=Lib.hid (And.intro hDl' hwr)
   clear hkl hys hownr hb hcell hD hDl hDl' hrs hwr
   go_wp2
   go_ret
   exact ⟨_,rfl,by rw [←H.out.1];exact OwC.of_parts (m:=w.heap.size+1) (by rw [HL.out.1];exact ⟨H.out.2.1,val_lt_succ _ _⟩) (by omega) HL.out.2 H.out.2.2.1,H.out.2.2.2⟩
end Go.Proofs.YtipfacnmobineaaGreatDoor
namespace Go.Proofs.YtipfacnmobineaaGreatDoor
open Go.RowKit
set_option maxHeartbeats 2000000 in
set_option maxRecDepth 100000 in
theorem eqChange_same (x y:CM) (hy:y.d=x.d) (B B':Nat) (w:World) (h:x.part.rd w B) (h':y.part.rd w B') (hB:B≤w.heap.size) (hB':B'≤w.heap.size):
  Calls Tryz.prog 28 #[cmV x,cmV y] w (True1 w):=by
 have hp:y.path=x.path:=congrArg ChD.path hy
 have hv:y.part.d=x.part.d:=congrArg ChD.part hy
 obtain ⟨p,nn,bb,vb,vi,ll⟩:=x
 obtain ⟨p',nn',bb',vb',vi',ll'⟩:=y
 obtain ⟨Av,cv,ev, -⟩:=h.bytes.open_
 obtain ⟨Aw,cw,ew, -⟩:=h.its.open_
 obtain ⟨Av',cv',ev', -⟩:=h'.bytes.open_
 obtain ⟨Aw',cw',ew', -⟩:=h'.its.open_
 simp only [VM.vb_mk,VM.b_mk,VM.vi_mk,VM.items_mk] at ev ew ev' ew' h h' hp hv
 subst ev ew ev' ew' hp
 have HX:=Lib.hid (And.intro h (And.intro h' hv))
 have H1:=fun o o'=> eqValue_same _ _ hv B B' ((w.alloc o).alloc o') (h.bel ((((Below.refl w.heap.size w).alloc (Nat.le_refl _) _).alloc (by simp) _).mono hB)) (h'.bel ((((Below.refl w.heap.size w).alloc (Nat.le_refl _) _).alloc (by simp) _).mono hB')) (by simp;omega) (by simp;omega)
 have HC:=Lib.hid H1
 clear h h' hv hy H1
 unfold cmV
 simp only [VM.n_mk,VM.vb_mk,VM.vi_mk]
 go_enter Tryz.func28,Tryz.ntmps28
 go_wp2_with fail
 refine (HC.out _ _).mono ?_
 rintro e w2 ⟨rfl,hb9⟩
 have HB:=Lib.hid (below_step hb9 (((Below.refl w.heap.size w).alloc (Nat.le_refl _) _).alloc (by simp) _))
 clear hb9
 go_wp2_with fail
 go_ret
 exact ⟨rfl,HB.out⟩
set_option maxHeartbeats 2000000 in
set_option maxRecDepth 100000 in
theorem eqChangeS_same (v v':Value) (l l':List CM) (B B':Nat) (w:World) (h:SlC w B v l) (h':SlC w B' v' l') (hB:B≤w.heap.size) (hB':B'≤w.heap.size) (hd:l'.map CM.d=l.map CM.d):
  Calls Tryz.prog 16 #[v,v'] w (True1 w):=by
 have h2:=h.2
 have h2':=h'.2
 have hlen:l'.length=l.length:=by have:=congrArg List.length hd;simpa using this
 have hat:∀k (h1:k < l.length) (h2:k < l'.length),l'[k].d=l[k].d:=fun k h1 h2=> by
  have e1:(l'.map CM.d)[k]?=(l.map CM.d)[k]?:=by rw [hd]
  rw [List.getElem?_map,List.getElem?_map,List.getElem?_eq_getElem h1,List.getElem?_eq_getElem h2] at e1
  simpa using e1
 obtain ⟨A,c,rfl,hc,hm,hcell⟩:=h.open_
 obtain ⟨A',c',rfl,hc',hm',hcell'⟩:=h'.open_
 unfold maxLen at hm hm'
 clear h h' hd
 have hb0:((l.length:Int)==(l'.length:Int))=true:=by rw [hlen];simp
 have hb1:((l.length:Int) !=(l'.length:Int))=false:=by rw [hlen];simp
 have HL:=Lib.hid hlen
 have hle1:l.length≤l'.length:=by omega
 have hle2:l'.length≤l.length:=by omega
 clear hlen
 go_enter Tryz.func16,Tryz.ntmps16
 go_wp2
 go_loopw [5] (fun i wr=> ∃k:Nat,k≤l.length∧i= .int .i64 k∧Below w.heap.size w wr) (fun i _=> l.length - (intOf i).toNat)
 case atStart=> exact ⟨0,Nat.zero_le _,rfl,Below.refl _ _⟩
 case round=>
  obtain ⟨k,hk,rfl,hb⟩:=hrel
  by_cases hlt:k < l.length
  ·have hlt':k < l'.length:=by omega
   obtain ⟨b,off,rfl,hbB,hc0,hc1,hc2,hc3⟩:=hcell k hlt
   obtain ⟨b',off',rfl,hbB',hc0',hc1',hc2',hc3'⟩:=hcell' k hlt'
   have hbm:=hb.mono hB
   have hbm':=hb.mono hB'
   have hd0:wr.cell? ⟨b,off+k*4,none⟩=some (.string l[k].path):=(hbm.cell (p:=⟨b,off+k*4,none⟩) hbB).trans hc0
   have hd1:wr.cell? ⟨b,off+k*4+1,none⟩=some (.int .i64 l[k].part.n):=(hbm.cell (p:=⟨b,off+k*4+1,none⟩) hbB).trans hc1
   have hd2:wr.cell? ⟨b,off+k*4+2,none⟩=some l[k].part.vb:=(hbm.cell (p:=⟨b,off+k*4+2,none⟩) hbB).trans hc2
   have hd3:wr.cell? ⟨b,off+k*4+3,none⟩=some l[k].part.vi:=(hbm.cell (p:=⟨b,off+k*4+3,none⟩) hbB).trans hc3
   have hd0':wr.cell? ⟨b',off'+k*4,none⟩=some (.string l'[k].path):=(hbm'.cell (p:=⟨b',off'+k*4,none⟩) hbB').trans hc0'
   have hd1':wr.cell? ⟨b',off'+k*4+1,none⟩=some (.int .i64 l'[k].part.n):=(hbm'.cell (p:=⟨b',off'+k*4+1,none⟩) hbB').trans hc1'
   have hd2':wr.cell? ⟨b',off'+k*4+2,none⟩=some l'[k].part.vb:=(hbm'.cell (p:=⟨b',off'+k*4+2,none⟩) hbB').trans hc2'
   have hd3':wr.cell? ⟨b',off'+k*4+3,none⟩=some l'[k].part.vi:=(hbm'.cell (p:=⟨b',off'+k*4+3,none⟩) hbB').trans hc3'
   have r1:=(h2 _ (List.getElem_mem hlt)).bel hbm
   have r2:=(h2' _ (List.getElem_mem hlt')).bel hbm'
   have hsz:=hb.size
   have R1:=Lib.hid (And.intro r1 (And.intro r2 (hat k hlt hlt')))
   have HB:=Lib.hid hb
   clear hcell hcell' hbm hbm' r1 r2 hb hat h2 h2' hc0 hc1 hc2 hc3 hc0' hc1' hc2' hc3'
   go_wp2_with fail
   go_region_held3 (fun w'=> w'.cell? ⟨b,off+k*4,none⟩=some (.string l[k].path)∧w'.cell? ⟨b,off+k*4+1,none⟩=some (.int .i64 l[k].part.n)∧w'.cell? ⟨b,off+k*4+2,none⟩=some l[k].part.vb∧w'.cell? ⟨b,off+k*4+3,none⟩=some l[k].part.vi∧w'.cell? ⟨b',off'+k*4,none⟩=some (.string l'[k].path)∧w'.cell? ⟨b',off'+k*4+1,none⟩=some (.int .i64 l'[k].part.n)∧w'.cell? ⟨b',off'+k*4+2,none⟩=some l'[k].part.vb∧w'.cell? ⟨b',off'+k*4+3,none⟩=some l'[k].part.vi)
    (first|exact ⟨hd0,hd1,hd2,hd3,hd0',hd1',hd2',hd3'⟩|exact ⟨cell_later bel2 hd0,cell_later bel2 hd1,cell_later bel2 hd2,cell_later bel2 hd3,cell_later bel2 hd0',cell_later bel2 hd1',cell_later bel2 hd2',cell_later bel2 hd3'⟩)
    (first|(go_at_call 28;refine (eqChange_same l[k] l'[k] R1.out.2.2 B B' _ (R1.out.1.bel ((Below.refl _ _).drew)) (R1.out.2.1.bel ((Below.refl _ _).drew)) (by show B≤wr.heap.size;omega) (by show B'≤wr.heap.size;omega)).mono ?_;rintro e w2 ⟨rfl,bel2⟩))
   have HB2:=Lib.hid (below_step bel2 HB.out.drew)
   clear bel2 hd0 hd1 hd2 hd3 hd0' hd1' hd2' hd3'
   go_wp2
   go_roundw
   case rel=> exact ⟨k+1,by omega,by go_num,HB2.out⟩
   case measure=> simp [intOf];omega
  ·clear hcell hcell' hat
   go_wp2
   go_ret
   exact ⟨rfl,hb⟩
theorem eqC_law {w:World} {v v':Value} {X:List ChD} {lo hi lo' hi':Nat} (h:OwC X lo hi w v) (h':OwC X lo' hi' w v'):
  Calls Tryz.prog 16 #[v,v'] w (True1 w):=by
 obtain ⟨x,e1,r1⟩:=h.slc
 obtain ⟨y,e2,r2⟩:=h'.slc
 exact eqChangeS_same v v' x y _ _ w r1 r2 (Nat.le_refl _) (Nat.le_refl _) (e2.trans e1.symm)
theorem eqC1_law {w:World} {v v':Value} {X:ChD} {lo hi lo' hi':Nat} (h:OwC1 X lo hi w v) (h':OwC1 X lo' hi' w v'):
  Calls Tryz.prog 28 #[v,v'] w (True1 w):=by
 obtain ⟨x,rfl,rfl,r1⟩:=h
 obtain ⟨y,e2,rfl,r2⟩:=h'
 exact eqChange_same x y e2 _ _ w r1.own.rd r2.own.rd (Nat.le_refl _) (Nat.le_refl _)
end Go.Proofs.YtipfacnmobineaaGreatDoor
