/- Out of ChgMk, ChgHd: the walks and plain laws that the claim needs. No condition but those that each theorem names. -/
import Derived.Test.YtipfacnmobineaaGreatDoorGca
import Derived.Test.YtipfacnmobineaaGreatDoorGf
import Derived.Test.YtipfacnmobineaaGreatDoorGv
import Derived.WalkSpells
import Derived.WalkLawsBesides
import Derived.Test.YtipfacnmobineaaGreatDoorGn
import Derived.Deep.RegionHeld3
set_option linter.unusedSimpArgs false
set_option linter.unusedVariables false
namespace Go.Proofs.YtipfacnmobineaaGreatDoor
open Go.RowKit
def CM.mk1 (c:CM) (k:Nat):CM:=⟨mtext k,c.part.mk1 (k+1)⟩
def cSizes:List CM→Nat
 | []=> 0
 |c::l=> 2+c.part.d.size+cSizes l
def CM.mks:List CM→Nat→List CM
 | [],_=> []
 |c::l,k=> c.mk1 k::CM.mks l (k+2+c.part.d.size)
theorem CM.mks_length:∀(l:List CM) (k:Nat),(CM.mks l k).length=l.length
 | [],k=> rfl
 |c::l,k=> by rw [CM.mks,List.length_cons,List.length_cons,CM.mks_length l]
theorem CM.mks_append:∀(l l':List CM) (k:Nat),CM.mks (l++l') k=CM.mks l k++CM.mks l' (k+cSizes l)
 | [],l',k=> rfl
 |x::l,l',k=> by
  rw [List.cons_append,CM.mks,CM.mks,CM.mks_append l l',cSizes,List.cons_append]
  congr 3
  omega
theorem cSizes_append (l l':List CM):cSizes (l++l')=cSizes l+cSizes l':=by
 induction l with
 |nil=> simp [cSizes]
 |cons x l ih=> rw [List.cons_append,cSizes,cSizes,ih];omega
theorem cSizes_take_succ {l:List CM} {j:Nat} (hj:j < l.length):cSizes (l.take (j+1))=cSizes (l.take j)+2+l[j].part.d.size:=by
 rw [List.take_succ_eq_append_getElem hj,cSizes_append,cSizes,cSizes];omega
theorem cSizes_take_le (l:List CM) (j:Nat):cSizes (l.take j)≤cSizes l:=by
 have h:cSizes l=cSizes (l.take j)+cSizes (l.drop j):=by rw [←cSizes_append,List.take_append_drop]
 omega
theorem cSizes_le (l:List CM):cSizes l≤2*chSizes (l.map CM.d):=by
 induction l with
 |nil=> exact Nat.zero_le _
 |cons x l ih=> rw [List.map_cons,cSizes,chSizes];unfold ChD.size;rw [CM.d_part];omega
theorem CM.mks_take_succ {l:List CM} {j:Nat} (hj:j < l.length) (k:Nat):CM.mks (l.take (j+1)) k=CM.mks (l.take j) k++ [l[j].mk1 (k+cSizes (l.take j))]:=by
 rw [List.take_succ_eq_append_getElem hj,CM.mks_append,CM.mks,CM.mks]
theorem CM.mks_at:∀{l:List CM} {k j:Nat} (hj:j < l.length),(CM.mks l k)[j]'(by rw [CM.mks_length];exact hj)=l[j].mk1 (k+cSizes (l.take j))
 |x::l,k,0,hj=> by simp only [CM.mks,List.getElem_cons_zero,List.take_zero,cSizes];rfl
 |x::l,k,j+1,hj=> by
  simp only [CM.mks,List.getElem_cons_succ,List.take_succ_cons,cSizes]
  rw [CM.mks_at (by simpa using hj)]
  congr 1
  omega
theorem VM.bks_mk1 (x:VM) (k:Nat):(x.mk1 k).bks=x.bks:=by rw [VM.bks_eq,VM.bks_eq];unfold VM.mk1;simp only [VM.vb_mk,VM.vi_mk,VM.items_mk];rw [VM.bkss_mks]
theorem CM.bkss_mks:∀(l:List CM) (k:Nat),VM.bkss ((CM.mks l k).map CM.part)=VM.bkss (l.map CM.part)
 | [],k=> rfl
 |c::l,k=> by rw [CM.mks,List.map_cons,List.map_cons,VM.bkss_cons,VM.bkss_cons,CM.bkss_mks l];unfold CM.mk1;rw [VM.bks_mk1]
theorem VM.own.own_bel {lo:Nat} {w w':World} {x:VM} (h:x.own lo w) (hb:Below w.heap.size w w'):x.own lo w':=h.keep fun g hg=> hb.block g (h.lt g hg).2
theorem ccells_mid {l D L:List CM} {x:CM} {w:World} {lo g n cap:Nat} {E:TypeId} (h:w.ownsRow lo E 4 (.slice (some ⟨g,0,none⟩) n cap) n (D.flatMap cmCells++(cmCells x++L.flatMap cmCells))) {j:Nat} (hD:D.length=j) (hj:j < n):
  w.cell? ⟨g,j*4,none⟩=some (.string x.path)∧w.cell? ⟨g,j*4+1,none⟩=some (.int .i64 x.part.n)∧w.cell? ⟨g,j*4+2,none⟩=some x.part.vb∧w.cell? ⟨g,j*4+3,none⟩=some x.part.vi:=by
 have hl:(D.flatMap cmCells).length=j*4:=by rw [flatMap_len cmCells 4 cmCells_length,hD]
 have hat:∀i u,i < 4→(cmCells x)[i]?=some u→w.cell? ⟨g,j*4+i,none⟩=some u:=fun i u hi hu=> by
  rw [h.cellAt (j*4+i) (by omega),List.getElem?_append_right (by omega),hl,Nat.add_sub_cancel_left,List.getElem?_append_left (by rw [cmCells_length];exact hi)]
  exact hu
 exact ⟨hat 0 _ (by omega) rfl,hat 1 _ (by omega) rfl,hat 2 _ (by omega) rfl,hat 3 _ (by omega) rfl⟩
def MkPostC (l:List CM) (v:Value) (k lo:Nat) (w:World) (e:Ending) (w':World):Prop:=
 e= .returned (.int .i64 ((k+cSizes l:Nat):Int))∧w'.ownsRow lo 58 4 v l.length ((CM.mks l k).flatMap cmCells)∧(∀x∈CM.mks l k,x.part.own lo w')∧OutB (v.ownBlock.toList++VM.bkss (l.map CM.part)) w w'
set_option maxHeartbeats 4000000 in
set_option maxRecDepth 100000 in
theorem markChangeS_any (l:List CM) (v:Value) (k lo:Nat) (w:World) (h:w.ownsRow lo 58 4 v l.length (l.flatMap cmCells)) (hx:∀x∈l,x.part.own lo w) (hnd:(v.ownBlock.toList++VM.bkss (l.map CM.part)).Nodup) (h1:1≤k) (hk:k+cSizes l≤4611686018427387000):
  Calls Tryz.prog 19 #[v, .int .i64 k] w (MkPostC l v k lo w):=by
 rcases h.2 with ⟨rfl,h0⟩|⟨g,cap,cur,rfl,hb,hg,hc,hm,hs,ht⟩
 ·obtain rfl:=List.eq_nil_of_length_eq_zero h0
  clear hk hx hnd h h0
  go_enter Tryz.func19,Tryz.ntmps19
  go_wp2
  go_loop [1,5] (fun q i=> i= .int .i64 0∧q= .int .i64 k) (fun _ i=> (intOf i).toNat)
  case atStart=> exact ⟨rfl,rfl⟩
  case round=>
   obtain ⟨rfl,rfl⟩:=hrel
   go_wp2
   go_ret
   exact ⟨rfl,World.ownsRow_nil _ _ _ _,fun x hx=> absurd hx (by simp [CM.mks]),OutB.refl _ _⟩
 ·unfold maxLen at hm
  clear hg hs ht cur hb
  have HST:=Lib.hid (And.intro (fun j (hj:j < l.length)=> cSizes_take_succ hj) (cSizes_take_le l))
  have HND:=Lib.hid hnd
  obtain ⟨N,hN⟩:∃N,N=cSizes l:=⟨_,rfl⟩
  have HN:=Lib.hid hN
  rw [←hN] at hk
  have h00:∃D:List CM,D.length=0∧Hid (D=CM.mks (l.take 0) k)∧w.ownsRow lo 58 4 (.slice (some ⟨g,0,none⟩) l.length cap) l.length (D.flatMap cmCells++(l.drop 0).flatMap cmCells)∧(∀y∈D++l.drop 0,y.part.own lo w)∧Hid (VM.bkss ((D++l.drop 0).map CM.part)=VM.bkss (l.map CM.part)):=
   ⟨[],rfl,Lib.hid rfl,h,hx,Lib.hid rfl⟩
  clear hnd hN h hx
  go_enter Tryz.func19,Tryz.ntmps19
  go_wp2
  go_loopw [1,5] (fun q i wr=> ∃j r:Nat,j≤l.length∧i= .int .i64 j∧q= .int .i64 r∧1≤r∧r≤k+N∧Hid (r=k+cSizes (l.take j))∧(∃D:List CM,D.length=j∧Hid (D=CM.mks (l.take j) k)∧wr.ownsRow lo 58 4 (.slice (some ⟨g,0,none⟩) l.length cap) l.length (D.flatMap cmCells++(l.drop j).flatMap cmCells)∧(∀y∈D++l.drop j,y.part.own lo wr)∧Hid (VM.bkss ((D++l.drop j).map CM.part)=VM.bkss (l.map CM.part)))∧OutB ([g]++VM.bkss (l.map CM.part)) w wr) (fun _ i _=> l.length - (intOf i).toNat)
  case atStart=> exact ⟨0,k,Nat.zero_le _,rfl,rfl,h1,by omega,Lib.hid rfl,h00,OutB.refl _ _⟩
  case round=>
   clear h00
   obtain ⟨j,r,hj,rfl,rfl,hr1,hrk,HR,⟨D,hD,HD,hown,hos,HB⟩,hout⟩:=hrel
   by_cases hlt:j < l.length
   ·have hst:=HST.out.1 j hlt
    have hsl:=HST.out.2 (j+1)
    have htk:=CM.mks_take_succ hlt k
    have hsub:∀q∈l[j].part.bks,q∈ [g]++VM.bkss (l.map CM.part):=fun q hq=> List.mem_append_right _ (VM.mem_bkss (List.mem_map_of_mem (List.getElem_mem hlt)) hq)
    have hdr:=List.drop_eq_getElem_cons hlt
    rw [←HR.out] at htk
    rw [←HD.out] at htk
    have HTK:=Lib.hid htk
    generalize l[j]=x at hdr hst hsub HTK
    obtain ⟨L,hL⟩:∃L,l.drop (j+1)=L:=⟨_,rfl⟩
    rw [hL] at hdr
    rw [hdr] at hown hos HB
    have HL:=Lib.hid hL
    have HB0:=Lib.hid HB.out
    have hnd:=HND.out
    rw [show (Value.slice (some ⟨g,0,none⟩) l.length cap).ownBlock.toList= [g] from rfl,←HB.out,List.map_append,List.map_cons] at hnd
    obtain ⟨n1,n2,n3,n4⟩:=nd_parts hnd
    obtain ⟨n5,n6⟩:=nd_val n2
    rw [List.flatMap_cons] at hown
    have hDc:(D.flatMap cmCells).length=j*4:=by rw [flatMap_len cmCells 4 cmCells_length,hD]
    have hxn:(x.part.vb.ownBlock.toList++(x.part.vi.ownBlock.toList++VM.bkss x.part.items))=x.part.bks:=(VM.bks_eq x.part).symm
    have hsz:=VM.size_d x.part
    have hrr:=HR.out
    obtain ⟨xs,hxs⟩:∃xs,xs=Val.sizes (x.part.items.map VM.d):=⟨_,rfl⟩
    rw [←hxs] at hsz
    have hNN:=HN.out
    have b1:r+2+x.part.b.length+xs≤4611686018427387000:=by omega
    have b2:r+2+x.part.b.length+xs≤k+N:=by omega
    have HE:=Lib.hid (show r+2+x.part.b.length+xs=k+cSizes (l.take (j+1)) by omega)
    have HNn:=Lib.hid (And.intro n1 (And.intro n3 (And.intro n4 (And.intro n5 (And.intro n6 (And.intro hxn hxs))))))
    clear hst hsl htk hdr hL hnd n1 n2 n3 n4 n5 n6 hxn hrr hNN hsz hxs HB
    -- the text
    go_wp2_with fail
    refine (markText_at _ r rfl _ hr1 (by omega)).mono ?_
    rintro e w1 ⟨rfl,hb1⟩
    have hown:=own_below hown hb1 (Nat.le_refl _)
    have hos:∀y∈D++x::L,y.part.own lo w1:=fun y hy=> (hos y hy).own_bel hb1
    have hout:=hout.trans (OutB.of_below hb1)
    obtain ⟨n1,n3,n4,n5,n6,hxn,hxs⟩:=HNn.out
    have c0:=(ccells_mid (l:=l) hown hD hlt).1
    have hf0:=hown.frozenAt (j*4)
    -- the number
    have p1:=own_putCells [.string (mtext r), .int .i64 ((r:Int)+1)] w1 (D.flatMap cmCells) (cmCells x++L.flatMap cmCells) (by simp [cmCells]) hown
    rw [hDc] at p1
    have p1:((w1.setCell ⟨g,j*4,none⟩ (.string (mtext r))).setCell ⟨g,j*4+1,none⟩ (.int .i64 ((r:Int)+1))).ownsRow lo 58 4 (.slice (some ⟨g,0,none⟩) l.length cap) l.length (D.flatMap cmCells++([.string (mtext r), .int .i64 ((r:Int)+1),x.part.vb,x.part.vi]++L.flatMap cmCells)):=by
     rw [List.append_assoc] at p1
     exact p1
    have p0:=own_putCells [.string (mtext r)] w1 (D.flatMap cmCells) (cmCells x++L.flatMap cmCells) (by simp [cmCells]) hown
    rw [hDc] at p0
    have p0:(w1.setCell ⟨g,j*4,none⟩ (.string (mtext r))).ownsRow lo 58 4 (.slice (some ⟨g,0,none⟩) l.length cap) l.length (D.flatMap cmCells++([.string (mtext r), .int .i64 x.part.n,x.part.vb,x.part.vi]++L.flatMap cmCells)):=by
     rw [List.append_assoc] at p0
     exact p0
    have c1:=(ccells_mid (l:=l) (x:=⟨mtext r,x.part⟩) p0 hD hlt).2.1
    have hf1:=p0.frozenAt (j*4+1)
    have o1:OutB [g] w1 ((w1.setCell ⟨g,j*4,none⟩ (.string (mtext r))).setCell ⟨g,j*4+1,none⟩ (.int .i64 ((r:Int)+1))):=
     (OutB.of_grown (grownBy_setCell w1 g (j*4) _) fun q e=> by cases e;simp).trans (OutB.of_grown (grownBy_setCell _ g (j*4+1) _) fun q e=> by cases e;simp)
    have hxo:=(hos x (by simp)).keepB o1 (fun q hq hg=> n1 q hg hq)
    have hDo:∀y∈D,y.part.own lo ((w1.setCell ⟨g,j*4,none⟩ (.string (mtext r))).setCell ⟨g,j*4+1,none⟩ (.int .i64 ((r:Int)+1))):=fun y hy=> (hos y (by simp [hy])).keepB o1 (fun q hq hg=> (n3 y.part (List.mem_map_of_mem hy) q hq).1 hg)
    have hLo:∀y∈L,y.part.own lo ((w1.setCell ⟨g,j*4,none⟩ (.string (mtext r))).setCell ⟨g,j*4+1,none⟩ (.int .i64 ((r:Int)+1))):=fun y hy=> (hos y (by simp [hy])).keepB o1 (fun q hq hg=> (n4 y.part (List.mem_map_of_mem hy) q hq).1 hg)
    have out1:=hout.trans (o1.mono (fun q hq=> List.mem_append_left _ hq))
    have hbo:=hxo.bytes
    have hio:=hxo.row
    have hto:=hxo.its
    obtain ⟨A1,a1,ev1⟩:=own_slice hbo
    obtain ⟨A2,a2,ev2⟩:=own_slice hio
    have c2:=(ccells_mid (l:=l) hown hD hlt).2.2.1
    have e2:=(ccells_mid (l:=l) (x:=⟨mtext r, .mk (r+1) x.part.b x.part.vb x.part.vi x.part.items⟩) p1 hD hlt).2.2.1
    have c3:=(ccells_mid (l:=l) hown hD hlt).2.2.2
    simp only [VM.vb_mk] at e2
    rw [ev1] at c2 e2
    rw [ev2] at c3
    have HEV:=Lib.hid (And.intro ev1 ev2)
    have HH:=Lib.hid (And.intro p1 (And.intro hbo (And.intro hio (And.intro hto (And.intro hDo (And.intro hLo (And.intro out1 hsub)))))))
    clear hown hos hout n1 n3 n4 n5 n6 hxn hxs p1 p0 o1 hxo hDo hLo out1 hbo hio hto ev1 ev2 hsub hb1 hDc
    go_wp2_with fail
    rw [←HEV.out.1]
    have hcall:=markByteS_any x.part.vb x.part.b.length (u8s x.part.b) (r+2) lo _ HH.out.2.1 (by omega)
    rw [show ((r+2:Nat):Int)=(r:Int)+1+1 by omega] at hcall
    refine hcall.mono ?_
    rintro e w2 ⟨rfl,hbo,hgr⟩
    clear hcall
    obtain ⟨p1, -,hio,hto,hDo,hLo,out1,hsub⟩:=HH.out
    obtain ⟨n1,n3,n4,n5,n6,hxn,hxs⟩:=HNn.out
    have o2:OutB x.part.vb.ownBlock.toList _ w2:=OutB.of_grown hgr fun q e=> by rw [e];simp
    have hvx:∀q∈x.part.vb.ownBlock.toList,q∈x.part.bks:=fun q hq=> by rw [←hxn];exact List.mem_append_left _ hq
    have p1:=row_keepB p1 o2 (fun q hq hm=> n1 q (own_mem1 hq) (hvx q hm))
    have hio:=row_keepB hio o2 (fun q hq hm=> n6 q (Option.mem_toList.1 hm) (by rw [hq];simp))
    have hto:∀y∈x.part.items,y.own lo w2:=fun y hy=> (hto y hy).keepB o2 (fun q hq hm=> n6 q (Option.mem_toList.1 hm) (List.mem_append_right _ (VM.mem_bkss hy hq)))
    have hDo:∀y∈D,y.part.own lo w2:=fun y hy=> (hDo y hy).keepB o2 (fun q hq hm=> (n3 y.part (List.mem_map_of_mem hy) q hq).2 (hvx q hm))
    have hLo:∀y∈L,y.part.own lo w2:=fun y hy=> (hLo y hy).keepB o2 (fun q hq hm=> (n4 y.part (List.mem_map_of_mem hy) q hq).2 (hvx q hm))
    have out2:=out1.trans (o2.mono (fun q hq=> hsub q (hvx q hq)))
    obtain ⟨e0,e1,e2,e3⟩:=ccells_mid (l:=l) (x:=⟨mtext r, .mk (r+1) x.part.b x.part.vb x.part.vi x.part.items⟩) p1 hD hlt
    simp only [VM.vb_mk,VM.vi_mk] at e2 e3
    rw [HEV.out.2] at e3
    have HH:=Lib.hid (And.intro p1 (And.intro hbo (And.intro hio (And.intro hto (And.intro hDo (And.intro hLo (And.intro out2 hsub)))))))
    clear p1 hbo hio hto hDo hLo out1 out2 o2 hgr n1 n3 n4 n5 n6 hxn hxs hsub hvx c0 c1 c2 c3 hf0 hf1 e0 e1 e2
    go_wp2_with fail
    rw [←HEV.out.2]
    have hcall:=markItems_any x.part x.part.vi (r+2+x.part.b.length) lo w2 HH.out.2.2.1 HH.out.2.2.2.1 HNn.out.2.2.2.1 (by rw [←HNn.out.2.2.2.2.2.2];exact b1)
    rw [show ((r+2+x.part.b.length:Nat):Int)=(r:Int)+1+1+x.part.b.length by omega] at hcall
    refine hcall.mono ?_
    rintro e w3 ⟨rfl,hio,hto,o3⟩
    clear hcall
    obtain ⟨p1,hbo, -, -,hDo,hLo,out2,hsub⟩:=HH.out
    obtain ⟨n1,n3,n4,n5,n6,hxn,hxs⟩:=HNn.out
    have hix:∀q∈x.part.vi.ownBlock.toList++VM.bkss x.part.items,q∈x.part.bks:=fun q hq=> by rw [←hxn];exact List.mem_append_right _ hq
    have p1:=row_keepB p1 o3 (fun q hq hm=> n1 q (own_mem1 hq) (hix q hm))
    have hbo:=row_keepB hbo o3 (fun q hq hm=> n6 q hq hm)
    have hDo:∀y∈D,y.part.own lo w3:=fun y hy=> (hDo y hy).keepB o3 (fun q hq hm=> (n3 y.part (List.mem_map_of_mem hy) q hq).2 (hix q hm))
    have hLo:∀y∈L,y.part.own lo w3:=fun y hy=> (hLo y hy).keepB o3 (fun q hq hm=> (n4 y.part (List.mem_map_of_mem hy) q hq).2 (hix q hm))
    have out3:=out2.trans (o3.mono (fun q hq=> hsub q (hix q hq)))
    have hz:(x.mk1 r).part.own lo w3:= .mk (by rw [marks_length];exact hbo) (by rw [VM.mks_length];exact hio) hto
    have hp:w3.ownsRow lo 58 4 (.slice (some ⟨g,0,none⟩) l.length cap) l.length ((D++ [x.mk1 r]).flatMap cmCells++(l.drop (j+1)).flatMap cmCells):=by
     rw [HL.out,List.flatMap_append,List.append_assoc,show [x.mk1 r].flatMap cmCells= [.string (mtext r), .int .i64 ((r:Int)+1),x.part.vb,x.part.vi] from rfl]
     exact p1
    have hall:∀y∈(D++ [x.mk1 r])++l.drop (j+1),y.part.own lo w3:=by
     rw [HL.out]
     intro y hy
     simp only [List.mem_append,List.mem_singleton] at hy
     rcases hy with (hy|rfl)|hy
     ·exact hDo y hy
     ·exact hz
     ·exact hLo y hy
    have hbk:VM.bkss (((D++ [x.mk1 r])++l.drop (j+1)).map CM.part)=VM.bkss (l.map CM.part):=by
     rw [HL.out,←HB0.out]
     simp only [List.map_append,List.map_cons,List.map_nil,VM.bkss_append,VM.bkss_cons,VM.bkss_nil,List.append_nil,List.append_assoc]
     rw [show (x.mk1 r).part.bks=x.part.bks from VM.bks_mk1 _ _]
    have hD2:(D++ [x.mk1 r]).length=j+1:=by simp [hD]
    have HF:=Lib.hid (And.intro hp (And.intro hall (And.intro hbk (And.intro out3 hD2))))
    have hv9:Val.sizes (x.part.items.map VM.d)=xs:=hxs.symm
    rw [hv9]
    clear p1 hbo hio hto hDo hLo out2 out3 o3 n1 n3 n4 n5 n6 hxn hxs hsub hix hz hp hall hbk hD2 hv9 e3
    go_wp2
    go_roundw
    case rel=> exact ⟨j+1,r+2+x.part.b.length+xs,by omega,by go_num,by go_num,by omega,b2,Lib.hid HE.out,⟨_,HF.out.2.2.2.2,Lib.hid HTK.out.symm,HF.out.1,HF.out.2.1,Lib.hid HF.out.2.2.1⟩,HF.out.2.2.2.1⟩
    case measure=> simp [intOf];omega
   ·have hjn:j=l.length:=by omega
    have hall:Hid (D=CM.mks l k∧r=k+cSizes l):=Lib.hid ⟨by rw [HD.out,hjn,List.take_length],by rw [HR.out,hjn,List.take_length]⟩
    rw [hjn,List.drop_length,List.flatMap_nil,List.append_nil] at hown
    have hos2:∀y∈D,y.part.own lo wr:=fun y hy=> hos y (by simp [hy])
    have HF:=Lib.hid (And.intro hown (And.intro hos2 hout))
    clear hown hos hos2 hout HB hjn HD HR
    go_wp2
    go_ret
    refine ⟨ret_int (by rw [←hall.out.2]),?_,?_,?_⟩
    ·rw [←hall.out.1];exact HF.out.1
    ·rw [←hall.out.1];exact HF.out.2.1
    ·exact HF.out.2.2
end Go.Proofs.YtipfacnmobineaaGreatDoor
namespace Go.Proofs.YtipfacnmobineaaGreatDoor
open Go.RowKit
set_option maxHeartbeats 4000000 in
set_option maxRecDepth 100000 in
theorem heldChangeS_any (l:List CM) (v:Value) (k B:Nat) (w:World) (h:SlC w B v (CM.mks l k)) (hB:B≤w.heap.size) (h1:1≤k) (hk:k+cSizes l≤4611686018427387000):
  Calls Tryz.prog 23 #[v, .int .i64 k] w fun e w'=> e= .returned (.int .i64 ((k+cSizes l:Nat):Int))∧Below w.heap.size w w':=by
 have h2:=h.2
 have hat:= @CM.mks_at l k
 obtain ⟨A,c,rfl,hc,hm,hcell⟩:=h.open_
 unfold maxLen at hm
 rw [CM.mks_length] at hc ⊢
 have hst:∀j (hj:j < l.length),cSizes (l.take (j+1))=cSizes (l.take j)+2+l[j].part.d.size:=fun j hj=> cSizes_take_succ hj
 have hall:∀j (hj:j < l.length),∃b off,A=some ⟨b,off,none⟩∧b < B∧w.cell? ⟨b,off+j*4,none⟩=some (.string (mtext (k+cSizes (l.take j))))∧w.cell? ⟨b,off+j*4+1,none⟩=some (.int .i64 ((k+cSizes (l.take j)+1:Nat):Int))∧w.cell? ⟨b,off+j*4+2,none⟩=some l[j].part.vb∧w.cell? ⟨b,off+j*4+3,none⟩=some l[j].part.vi∧
   SlB w B l[j].part.vb (marks (k+cSizes (l.take j)+1+1) l[j].part.b.length)∧SlV w B l[j].part.vi (VM.mks l[j].part.items (k+cSizes (l.take j)+1+1+l[j].part.b.length)):=fun j hj=> by
  obtain ⟨b,off,e,hbB,h0,h1,h3,h4⟩:=hcell j (by rw [CM.mks_length];exact hj)
  have hr:=h2 _ (List.getElem_mem (show j < (CM.mks l k).length by rw [CM.mks_length];exact hj))
  rw [hat hj] at h0 h1 h3 h4 hr
  exact ⟨b,off,e,hbB,h0,h1,h3,h4,hr.bytes,hr.its⟩
 have HST:=Lib.hid (And.intro hst (cSizes_take_le l))
 have HA:=Lib.hid hall
 obtain ⟨N,hN⟩:∃N,N=cSizes l:=⟨_,rfl⟩
 have HN:=Lib.hid hN
 rw [←hN] at hk ⊢
 clear hst hall hat hcell h2 h hN
 go_enter Tryz.func23,Tryz.ntmps23
 go_wp2
 go_loopw [1,5] (fun q i wr=> ∃j r:Nat,j≤l.length∧i= .int .i64 j∧q= .int .i64 r∧1≤r∧r≤k+N∧Hid (r=k+cSizes (l.take j))∧Below w.heap.size w wr) (fun _ i _=> l.length - (intOf i).toNat)
 case atStart=> exact ⟨0,k,Nat.zero_le _,rfl,rfl,h1,by omega,Lib.hid rfl,Below.refl _ _⟩
 case round=>
  obtain ⟨j,r,hj,rfl,rfl,hr1,hrk,HR,hb⟩:=hrel
  by_cases hlt:j < l.length
  ·obtain ⟨b,off,rfl,hbB,c0,c1,c2,c3,s1,s2⟩:=HA.out j hlt
   have hst:=HST.out.1 j hlt
   have hsl:=HST.out.2 (j+1)
   rw [←HR.out] at c0 c1 s1 s2
   have hsz:=VM.size_d l[j].part
   obtain ⟨xs,hxs⟩:∃xs,xs=Val.sizes (l[j].part.items.map VM.d):=⟨_,rfl⟩
   rw [←hxs] at hsz
   have hrr:=HR.out
   have hNN:=HN.out
   have b1:r+1+1+l[j].part.b.length+xs≤4611686018427387000:=by omega
   have b2:r+1+1+l[j].part.b.length+xs≤k+N:=by omega
   have HE:=Lib.hid (show r+1+1+l[j].part.b.length+xs=k+cSizes (l.take (j+1)) by omega)
   have HS:=Lib.hid (And.intro s1 (And.intro s2 hxs))
   generalize l[j]=x at*
   have hF:((r:Int)+1 !=(r:Int)+1)=false:=by simp
   obtain ⟨A1,a1,ev1, -⟩:=HS.out.1.open_
   obtain ⟨A2,a2,ev2, -⟩:=HS.out.2.1.open_
   rw [marks_length] at ev1
   rw [VM.mks_length] at ev2
   rw [ev1] at c2
   rw [ev2] at c3
   have hbm:=hb.mono hB
   have d0:wr.cell? ⟨b,off+j*4,none⟩=some (.string (mtext r)):=(hbm.cell (p:=⟨b,off+j*4,none⟩) hbB).trans c0
   have d1:wr.cell? ⟨b,off+j*4+1,none⟩=some (.int .i64 ((r:Int)+1)):=(hbm.cell (p:=⟨b,off+j*4+1,none⟩) hbB).trans c1
   have d2:wr.cell? ⟨b,off+j*4+2,none⟩=some (.slice A1 x.part.b.length a1):=(hbm.cell (p:=⟨b,off+j*4+2,none⟩) hbB).trans c2
   have d3:wr.cell? ⟨b,off+j*4+3,none⟩=some (.slice A2 x.part.items.length a2):=(hbm.cell (p:=⟨b,off+j*4+3,none⟩) hbB).trans c3
   have P1:=Lib.hid (fun W (hW:Below w.heap.size w W)=> heldByteS_any x.part.vb x.part.b.length (r+1+1) B W (HS.out.1.below (hW.mono hB)) (by omega))
   have P2:=Lib.hid (fun W (hW:Below w.heap.size w W)=> heldItems_any x.part x.part.vi (r+1+1+x.part.b.length) B W (HS.out.2.1.below (hW.mono hB)) (by rw [←HS.out.2.2];exact b1))
   have HEV:=Lib.hid (And.intro ev1 ev2)
   have HXS:=Lib.hid HS.out.2.2
   clear hst hsl hsz hxs hrr hNN s1 s2 ev1 ev2 HS c0 c1 c2 c3 hbm
   go_wp2_with fail
   go_region_held3 (fun w'=> w'.cell? ⟨b,off+j*4,none⟩=some (.string (mtext r))∧w'.cell? ⟨b,off+j*4+1,none⟩=some (.int .i64 ((r:Int)+1))∧w'.cell? ⟨b,off+j*4+2,none⟩=some (.slice A1 x.part.b.length a1)∧w'.cell? ⟨b,off+j*4+3,none⟩=some (.slice A2 x.part.items.length a2))
    (first|exact ⟨cell_later bel2 d0,cell_later bel2 d1,cell_later bel2 d2,cell_later bel2 d3⟩|exact ⟨d0,d1,d2,d3⟩)
    (first|(go_at_call 45;refine (markText_at _ r rfl _ hr1 (by omega)).mono ?_;rintro e w2 ⟨rfl,bel2⟩))
   have hbb:=below_step bel2 hb.drew
   have d1:=cell_later bel2 d1
   have d2:=cell_later bel2 d2
   have d3:=cell_later bel2 d3
   have HB:=Lib.hid hbb
   have Q1:=Lib.hid (P1.out w2 hbb)
   have Q2:=Lib.hid (P2.out w2 hbb)
   clear bel2 hb d0 hbb P1 P2
   go_wp2_with fail
   rw [←HEV.out.1]
   have hcall:=Q1.out
   rw [show ((r+1+1:Nat):Int)=(r:Int)+1+1 from rfl] at hcall
   refine hcall.mono ?_
   rintro e w3 ⟨rfl,rfl⟩
   clear hcall
   go_wp2_with fail
   rw [←HEV.out.2]
   have hcall:=Q2.out
   rw [show ((r+1+1+x.part.b.length:Nat):Int)=(r:Int)+1+1+x.part.b.length by omega] at hcall
   refine hcall.mono ?_
   rintro e w3 ⟨rfl,rfl⟩
   clear hcall
   have hq:((r+1+1+x.part.b.length+Val.sizes (x.part.items.map VM.d):Nat):Int)=((r+1+1+x.part.b.length+xs:Nat):Int):=by rw [←HXS.out]
   rw [hq]
   clear hq
   generalize hr9:r+1+1+x.part.b.length+xs=r9 at*
   have hr91:1≤r9:=by omega
   have HR9:=Lib.hid hr9
   clear hr9
   go_wp2
   go_roundw
   case rel=> exact ⟨j+1,r9,by omega,by go_num,rfl,hr91,b2,Lib.hid HE.out,HB.out⟩
   case measure=> simp [intOf];omega
  ·have hF:r=k+N:=by
    have:=HR.out
    rw [show j=l.length by omega,List.take_length,←HN.out] at this
    exact this
   have HF:=Lib.hid hF
   clear hF HR
   go_wp2
   go_ret
   exact ⟨ret_int (by rw [HF.out]),hb⟩
def MkC' (lo hi:Nat) (w:World) (v:Value) (k r:Int):Prop:=∃(l:List CM) (j:Nat),1≤j∧k=j∧r=(j+cSizes l:Nat)∧j+cSizes l≤4611686018427387000∧w.ownsRow lo 58 4 v l.length ((CM.mks l j).flatMap cmCells)∧(∀x∈CM.mks l j,x.part.own lo w)∧∀g∈v.ownBlock.toList++VM.bkss ((CM.mks l j).map CM.part),lo≤g∧g < hi
theorem MkC'.keep {lo hi lo' hi':Nat} {w w':World} {v:Value} {k r:Int} (h:MkC' lo hi w v k r) (ho:Out lo' hi' w w') (hd:hi≤lo'∨hi'≤lo):MkC' lo hi w' v k r:=by
 obtain ⟨l,j,h1,h2,h3,h4,h5,h6,h7⟩:=h
 have hb:∀g,g < w.heap.size→lo≤g∧g < hi→w'.heap[g]?=w.heap[g]?:=fun g hg hr=> ho.block g hg (by omega)
 exact ⟨l,j,h1,h2,h3,h4,own_row_keep h5 fun g hg=> hb g (h5.lt g hg).2 (h7 g (by rw [hg];simp)),fun x hx=> (h6 x hx).keep fun g hg=> hb g ((h6 x hx).lt g hg).2 (h7 g (List.mem_append_right _ (VM.mem_bkss (List.mem_map_of_mem hx) hg))),h7⟩
def MkCL (lo hi:Nat) (v:Value) (k:Int) (s:Nat) (w:World) (e:Ending) (w':World):Prop:=
 ∃r:Int,e= .returned (.int .i64 r)∧k≤r∧r≤k+2*s∧MkC' lo hi w' v k r∧Out lo hi w w'
theorem markC_law {w:World} {v:Value} {X:List ChD} {lo hi:Nat} (h:OwC X lo hi w v) (k:Int) (h1:1≤k) (h2:k+2*chSizes X≤4611686018427387000):
  Calls Tryz.prog 19 #[v, .int .i64 k] w (MkCL lo hi v k (chSizes X) w):=by
 obtain ⟨j,rfl⟩:=Int.eq_ofNat_of_zero_le (show 0≤k by omega)
 obtain ⟨l,rfl,hr,hx,hnd,hrng⟩:=h
 have hle:=cSizes_le l
 refine (markChangeS_any l v j lo w hr hx hnd (by omega) (by omega)).mono ?_
 rintro e w' ⟨rfl,p1,p2,p3⟩
 exact ⟨_,rfl,by omega,by omega,⟨l,j,by omega,rfl,rfl,by omega,p1,p2,by rw [CM.bkss_mks];exact hrng⟩,p3.out hrng⟩
theorem heldC_law {w:World} {v:Value} {lo hi:Nat} {k r:Int} (h:MkC' lo hi w v k r):
  Calls Tryz.prog 23 #[v, .int .i64 k] w fun e w'=> e= .returned (.int .i64 r)∧Below w.heap.size w w':=by
 obtain ⟨l,j,h1,rfl,rfl,h4,h5,h6,h7⟩:=h
 refine heldChangeS_any l v j _ w ⟨?_,fun x hx=> (h6 x hx).rd⟩ (Nat.le_refl _) h1 h4
 have:=Sl.of_own h5
 rw [CM.mks_length]
 exact this
theorem szC_law {w0 w:World} {v:Value} {l:List CM} {X:List ChD} {n:Int} (h:SlC w0 w0.heap.size v l) (ok:∀c∈l,c.d.ok) (hX:l.map CM.d=X) (b:Below w0.heap.size w0 w) (h0:0≤n) (h1:n≤1048576):
  Calls Tryz.prog 8 #[v, .int .i64 n] w (SzL (chSizes X≤1048576) n w):=by
 subst hX
 exact (szChangeS_any v l _ n w (h.below b) b.size (fun c hc=> (ok c hc).1) h0 h1).mono fun _ _ hq=> hq.szL h1 h0
theorem toC_law {w0 w:World} {v:Value} {l:List CM} {X:List ChD} (h:SlC w0 w0.heap.size v l) (hX:l.map CM.d=X) (b:Below w0.heap.size w0 w) (hs:chSizes X≤1048576):
  Calls Tryz.prog 12 #[v] w (Made (OwC X) w):=by
 subst hX
 refine toChangeS_any v l _ w (h.below b) b.size ?_ fun x hx=> ?_
 ·have:=chSizes_length (l.map CM.d);rw [List.length_map] at this;omega
 ·have:=chSizes_mem (List.mem_map_of_mem (f:=CM.d) hx)
  unfold ChD.size at this
  rw [CM.d_part] at this
  omega
end Go.Proofs.YtipfacnmobineaaGreatDoor
