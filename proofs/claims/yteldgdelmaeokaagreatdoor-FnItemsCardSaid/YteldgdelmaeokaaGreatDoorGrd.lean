/- Out of EdM, ValLp: the walks and plain laws that the claim needs. No condition but those that each theorem names. -/
import Derived.Test.YteldgdelmaeokaaGreatDoorGra
import Derived.WalkSpells
import Derived.WalkLawsBesides
import Derived.Deep.RegionHeld3
set_option linter.unusedSimpArgs false
set_option linter.unusedVariables false
set_option maxHeartbeats 4000000
set_option maxRecDepth 100000
namespace Go.Proofs.YteldgdelmaeokaaGreatDoor
open Go.Proofs.Tryz Go.RowKit
def Xl (D:List Zk) (k kd:Int):Bool:=match Ye D k with|none=> false|some r=> decide (r.kind=kd)
theorem Lf {D:List Zk} {k:Nat} (hk:k < D.length) (kd:Int):Xl D k kd=decide (D[k].kind=kd):=by
 obtain ⟨q,hq,e,hat⟩:=Ys (D:=D) (i:=(k:Int)) (by omega) (by omega)
 have:q=k:=by omega
 subst this
 unfold Xl
 rw [hat]
def Ta (i:Nat) (P y:Zt):Zt:= .mk y.n y.b (y.items.take i++P::y.items.drop i)
def Rv (D:List Zk) (at_:Int) (P:Zt) (k:Int) (y:Zt):Option Zt:=
 if Xl D k 5 && Yv at_ 0 y.items.length then My D (Ta at_.toNat P y) k y else none
theorem Mj {D:List Zk} {at_:Int} {P:Zt} {k:Int} {y:Zt} (h:(Xl D k 5 && Yv at_ 0 y.items.length)=false):Rv D at_ P k y=none:=by unfold Rv;rw [if_neg (by rw [h];exact Bool.false_ne_true)]
theorem Mi {D:List Zk} {at_:Int} {P:Zt} {k:Int} {y:Zt} (h:(Xl D k 5 && Yv at_ 0 y.items.length)=true):Rv D at_ P k y=My D (Ta at_.toNat P y) k y:=by unfold Rv;rw [if_pos h]
theorem Lg (i:Nat) (P y:Zt):(Ta i P y).size=y.size+P.size+1:=by
 have e:y.size=y.b.length+Zt.sizes y.items:=by conv=> lhs;rw [Zt.eta y,Zt.size_mk]
 have e2:Zt.sizes y.items=Zt.sizes (y.items.take i)+Zt.sizes (y.items.drop i):=by rw [←Zt.sizes_append,List.take_append_drop]
 unfold Ta
 rw [Zt.size_mk,Zt.sizes_append,Zt.sizes_cons]
 omega
theorem Ux {w:World} {b o:Nat} {v:Value} (h:w.cell? ⟨b,o,none⟩=some v):w.setCell ⟨b,o,none⟩ v=w:=by
 have e:∀q:World,q.heap=w.heap→q={ w with heap:=q.heap }→q=w:=fun q h1 h2=> by rw [h2,h1]
 refine e _ ?_ rfl
 unfold World.setCell
 apply Array.ext_getElem?
 intro j
 rw [Array.getElem?_modify]
 split
 ·rename_i hj
  simp only at hj
  subst hj
  unfold World.cell? at h
  cases hh:w.heap[b]? with
  |none=> rfl
  |some ob=>
   rw [hh] at h
   cases ob with
   |cells c t fz=>
    have h':c[o]?=some v:=by simpa using h
    obtain ⟨h1,h2⟩:=Array.getElem?_eq_some_iff.1 h'
    have:c.setIfInBounds o v=c:=by
     rw [Array.setIfInBounds_def,dif_pos h1]
     subst h2
     simp
    simp [this]
   | _=> simp at h
 ·rfl
theorem Li {T:Type} (c:T→List Value) (size:Nat) (hc:∀t,(c t).length=size):∀(l:List T) (i:Nat),(l.flatMap c).take (i*size)=(l.take i).flatMap c
 | [],i=> by simp
 |x::l,0=> by simp
 |x::l,i+1=> by
  rw [List.flatMap_cons,List.take_succ_cons,List.flatMap_cons,←Li c size hc l i,Nat.succ_mul,List.take_append]
  rw [List.take_of_length_le (by rw [hc];omega),hc]
  congr 2
  omega
theorem Lj {T:Type} (c:T→List Value) (size:Nat) (hc:∀t,(c t).length=size):∀(l:List T) (i:Nat),(l.flatMap c).drop (i*size)=(l.drop i).flatMap c
 | [],i=> by simp
 |x::l,0=> by simp
 |x::l,i+1=> by
  rw [List.flatMap_cons,List.drop_succ_cons,←Lj c size hc l i,Nat.succ_mul,List.drop_append]
  rw [List.drop_of_length_le (by rw [hc];omega),hc,List.nil_append]
  congr 1
  omega
theorem Ly.head {w:World} {B c i:Nat} {A:Option Addr} {l:List VM} (h:Ly w B (.slice A l.length c) l) (hi:i≤l.length) (hc:l.length≤c) (hm:c≤maxLen):Sl w B 3 (.slice (cutA A c 0 3) (i - 0) (c - 0)) (i - 0) ((l.take i).flatMap Ze):=by
 have:=Sl.cutA h.1 0 i c (Nat.zero_le _) hi (by omega) hm (by decide)
 rw [Nat.zero_mul,List.drop_zero,Nat.sub_zero,Li Ze 3 Zu] at this
 exact this
theorem Ly.rest {w:World} {B c i:Nat} {A:Option Addr} {l:List VM} (h:Ly w B (.slice A l.length c) l) (hi:i≤l.length) (hc:l.length≤c) (hm:c≤maxLen):Sl w B 3 (.slice (cutA A c i 3) (l.length - i) (c - i)) (l.length - i) ((l.drop i).flatMap Ze):=by
 have:=Sl.cutA h.1 i l.length c hi (Nat.le_refl _) hc hm (by decide)
 rw [Lj Ze 3 Zu,List.take_of_length_le (by rw [Yt Ze 3 Zu,List.length_drop];exact Nat.le_refl _)] at this
 exact this
theorem Om {lo:Nat} {w:World} {x:VM} (h:x.own lo w):∀u∈Ze x,u.oneCell'=true:=by
 obtain ⟨A,c,e, -⟩:=h.rd.bytes.open_
 obtain ⟨A',c',e', -⟩:=h.rd.its.open_
 exact Yq e e'
theorem Un {lo:Nat} {w:World} {l:List VM} (h:∀x∈l,x.own lo w):∀u∈l.flatMap Ze,u.oneCell'=true:=by
 intro u hu
 obtain ⟨x,hx,hm⟩:=List.mem_flatMap.1 hu
 exact Om (h x hx) u hm
theorem VM.ins_own {lo:Nat} {w:World} {y c:VM} {i:Nat} {vi:Value} (hy:y.own lo w) (hc:c.own lo w) (hi:i≤y.items.length)
  (hr:w.ownsRow lo 29 3 vi (y.items.length+1) ((y.items.take i).flatMap Ze++Ze c++(y.items.drop i).flatMap Ze)):(VM.mk y.n y.b y.vb vi (y.items.take i++c::y.items.drop i)).own lo w:=by
 refine .mk hy.bytes ?_ fun x hx=> ?_
 ·have e:(y.items.take i++c::y.items.drop i).length=y.items.length+1:=by simp;omega
  rw [e,List.flatMap_append,List.flatMap_cons,←List.append_assoc]
  exact hr
 ·simp only [List.mem_append,List.mem_cons] at hx
  rcases hx with hx|rfl|hx
  ·exact hy.its x (List.mem_of_mem_take hx)
  ·exact hc
  ·exact hy.its x (List.mem_of_mem_drop hx)
theorem VM.ins_d (y c:VM) (i:Nat) (vi:Value):(VM.mk y.n y.b y.vb vi (y.items.take i++c::y.items.drop i)).d=Ta i c.d y.d:=by
 rw [VM.d_mk]
 unfold Ta
 rw [VM.n_d,VM.b_d,VM.items_d,List.map_append,List.map_cons,List.map_take,List.map_drop]
theorem VM.ins_bks {y c:VM} {i g:Nat} {vi:Value} (hv:vi.ownBlock=some g) (hgy:g ∉ y.bks) (hgc:g ∉ c.bks) (hy:y.bks.Nodup) (hc:c.bks.Nodup) (hd:∀k∈c.bks,k ∉ y.bks):
  (VM.mk y.n y.b y.vb vi (y.items.take i++c::y.items.drop i)).bks.Nodup∧∀k∈(VM.mk y.n y.b y.vb vi (y.items.take i++c::y.items.drop i)).bks,k=g∨k∈c.bks∨k∈y.bks:=by
 obtain ⟨n,b,vb,vo,l⟩:=y
 simp only [VM.n_mk,VM.b_mk,VM.vb_mk,VM.items_mk]
 have hp:(VM.mk n b vb vi (l.take i++c::l.drop i)).bks.Perm (g::(c.bks++(vb.ownBlock.toList++VM.bkss l))):=by
  rw [VM.bks_mk,VM.bkss_append,VM.bkss_cons,hv]
  have e:VM.bkss l=VM.bkss (l.take i)++VM.bkss (l.drop i):=by rw [←VM.bkss_append,List.take_append_drop]
  rw [e]
  show (vb.ownBlock.toList++([g]++(VM.bkss (l.take i)++(c.bks++VM.bkss (l.drop i))))).Perm _
  refine (List.perm_append_comm_assoc _ _ _).trans ?_
  refine List.Perm.cons g ?_
  rw [←List.append_assoc (VM.bkss (l.take i))]
  refine (List.Perm.append_left _ (List.Perm.append_right _ List.perm_append_comm)).trans ?_
  rw [List.append_assoc]
  exact List.perm_append_comm_assoc _ _ _
 rw [VM.bks_mk] at hgy hy hd
 have hyn:=List.nodup_append.1 hy
 have hln:=List.nodup_append.1 hyn.2.1
 refine ⟨hp.nodup_iff.2 ?_,fun k hk=> ?_⟩
 ·rw [List.nodup_cons,List.mem_append,List.nodup_append]
  simp only [List.mem_append,not_or] at hgy
  refine ⟨fun h=> ?_,hc,?_,fun a ha b' hb e=> ?_⟩
  ·rcases h with h|h
   ·exact hgc h
   ·rcases List.mem_append.1 h with h|h
    ·exact hgy.1 h
    ·exact hgy.2.2 h
  ·rw [List.nodup_append]
   exact ⟨hyn.1,hln.2.1,fun a ha b' hb e=> hyn.2.2 a ha b' (List.mem_append_right _ hb) e⟩
  ·subst e
   refine hd a ha ?_
   rcases List.mem_append.1 hb with h|h
   ·exact List.mem_append_left _ h
   ·exact List.mem_append_right _ (List.mem_append_right _ h)
 ·rcases List.mem_cons.1 (hp.mem_iff.1 hk) with h|h
  ·exact .inl h
  ·rcases List.mem_append.1 h with h|h
   ·exact .inr (.inl h)
   ·refine .inr (.inr ?_)
    rw [VM.bks_mk]
    rcases List.mem_append.1 h with h|h
    ·exact List.mem_append_left _ h
    ·exact List.mem_append_right _ (List.mem_append_right _ h)
theorem Uj {D:List Zk}:∀{t:List ByteArray} {k k':Int} {x y:Zt},Ji D k x t=some (k',y)→y.size≤x.size
 | [],k,k',x,y,hw=> by rw [Vj] at hw;cases hw;exact Nat.le_refl _
 |s::t,k,k',x,y,hw=> by
  rcases Yg D k x.items.length s with e|⟨j,hj,e⟩
  ·rw [Uk (by omega)] at hw;cases hw
  ·rw [Vq e hj] at hw
   refine Nat.le_trans (Uj hw) ?_
   have h1:=Zt.size_le_of_mem (List.getElem_mem hj)
   have e2:x.size=x.b.length+Zt.sizes x.items:=by conv=> lhs;rw [Zt.eta x,Zt.size_mk]
   omega
theorem VM.sub_put:∀{t:List Nat} {x y:VM} (_:x.sub t=some y) (p:VM),(VM.put p x t).sub t=some p
 | [],x,y,_,p=> rfl
 |j::t,x,y,h,p=> by
  obtain ⟨hj,h⟩:=VM.sub_lt h
  rw [VM.put_at hj,VM.sub_at (by simpa using hj)]
  simp only [VM.items_mk,List.getElem_set_self]
  exact VM.sub_put h p
theorem editV_congr {D:List Zk} {x y:Zt} {ok:Bool} {S:List ByteArray} {c c':Int→Zt→Option Zt} {k:Int} (hw:Ji D (D.length - 1:Nat) x S=some (k,y)) (h:c k y=c' k y):Jg D x ok S c=Jg D x ok S c':=by
 unfold Jg;rw [hw];simp only [h]
def partV (D:List Zk) (x:Zt) (ok:Bool) (S:List ByteArray) (kd:Int):Zt × Int × Bool:=
 ((Jw D x ok S).1,(Jw D x ok S).2.1,(Jw D x ok S).2.2 && Xl D (Jw D x ok S).2.1 kd)
theorem partV_eq {D:List Zk} {x y:Zt} {ok:Bool} {S:List ByteArray} {k:Int} {b:Bool} (h:Jw D x ok S=(y,k,b)) (kd:Int):partV D x ok S kd=(y,k,b && Xl D k kd):=by unfold partV;rw [h]
theorem l22Part_any (vD:Value) (l:List RM) (x:VM) (s:ByteArray) (kd:Int) (B:Nat) (w:World) (h:Jc w B vD l) (hB:B≤w.heap.size) (ok:∀r∈l,r.d.ok) (sm:∀r∈l,r.d.small 1048576) (hx:x.rd w B) (hs:x.d.size≤4194304) (hss:s.size≤2097152):
  Calls prog 29 #[.agg #[vD],Qr x, .string s, .int .i64 kd] w (Lz (partV (l.map RM.d) x.d (Qu Zf s) (Yl Zf s) kd) w):=by
 have hlm:(l.map RM.d).length=l.length:=List.length_map ..
 have hF:∀W,Below w.heap.size w W→Calls prog 10 #[.agg #[vD],Qr x, .string s] W (Lz (Jw (l.map RM.d) x.d (Qu Zf s) (Yl Zf s)) W):=fun W hb=>
  Xr vD l x s B W (h.below (hb.mono hB)) (by have:=hb.size;omega) ok sm (hx.bel (hb.mono hB)) hs hss
 obtain ⟨A,c,rfl,hc,hm, -⟩:=h.open_
 obtain ⟨Ax,cx,ex, -⟩:=hx.bytes.open_
 obtain ⟨Ay,cy,ey, -⟩:=hx.its.open_
 have hRC:∀k (hk:k < l.length),_:=fun k hk=> Zx h k hk
 unfold Qr at hF ⊢
 rw [ex,ey] at hF ⊢
 obtain ⟨FY,FK,FB,hf⟩:∃a b c,Jw (l.map RM.d) x.d (Qu Zf s) (Yl Zf s)=(a,b,c):=⟨_,_,_,rfl⟩
 rw [hf] at hF
 rw [partV_eq hf]
 have HF:=Fd hF
 have HLM:=Fd hlm
 have HFV:=Fd hf
 have HRC:=Fd hRC
 have hnl:l.length≤9223372036854775807:=by unfold maxLen at hm;omega
 clear hF hlm hf h hx ok sm hs ex ey hc hss hm hRC
 generalize x.items.length=nx at*
 obtain ⟨W0,hW0⟩:∃W0,W0=(((w.alloc (.cells #[.slice A l.length c] 26)).alloc (.cells #[.int .i64 x.n, .slice Ax x.b.length cx, .slice Ay nx cy] 29)).alloc (.cells #[.int .i64 0, .slice none 0 0, .slice none 0 0] 29)):=⟨_,rfl⟩
 have hb0:Below w.heap.size w W0:=by rw [hW0];exact (((Below.refl w.heap.size w).alloc (Nat.le_refl _) _).alloc (by simp) _).alloc (by simp;omega) _
 have hz0:W0.heap.size=w.heap.size+3:=by rw [hW0];simp
 have s0:W0.cell? ⟨w.heap.size,0,none⟩=some (.slice A l.length c):=by rw [hW0];simp [go_sem]
 have v0:W0.cell? ⟨w.heap.size+1,0,none⟩=some (.int .i64 x.n):=by rw [hW0];simp [go_sem]
 have v1:W0.cell? ⟨w.heap.size+1,1,none⟩=some (.slice Ax x.b.length cx):=by rw [hW0];simp [go_sem]
 have v2:W0.cell? ⟨w.heap.size+1,2,none⟩=some (.slice Ay nx cy):=by rw [hW0];simp [go_sem]
 have HR3:B3 W0 (w.heap.size+1+1) (.int .i64 0) (.slice none 0 0) (.slice none 0 0):=by
  rw [hW0]
  have:=B3.new ((w.alloc (.cells #[.slice A l.length c] 26)).alloc (.cells #[.int .i64 x.n, .slice Ax x.b.length cx, .slice Ay nx cy] 29)) (.int .i64 0) (.slice none 0 0) (.slice none 0 0) 29
  simpa using this
 go_enter func29,ntmps29
 go_upto_region 1 with fail
 rw [←hW0]
 clear hW0
 go_wp2_with fail
 refine (HF.out _ hb0).mono ?_
 rintro e w1 ⟨v,rfl,ho,bel⟩
 obtain ⟨A1,c1,A2,c2,rfl⟩:=ho.agg
 obtain ⟨W2,hW2⟩:∃W2,W2=w1.alloc (.cells #[.int .i64 FY.n, .slice A1 FY.b.length c1, .slice A2 FY.items.length c2] 29):=⟨_,rfl⟩
 have h12:Below w1.heap.size w1 W2:=by rw [hW2];exact (Below.refl _ _).alloc (Nat.le_refl _) _
 have BB2:B3 W2 w1.heap.size (.int .i64 FY.n) (.slice A1 FY.b.length c1) (.slice A2 FY.items.length c2):=by rw [hW2];exact B3.new w1 _ _ _ _
 have b02:=bel.trans (h12.mono bel.size)
 have bw:=Zb b02 hb0
 have hz1:w.heap.size+3≤w1.heap.size:=by have:=bel.size;omega
 have s2:=cell_later b02 s0
 have RB:=HR3.later b02
 have HO:=Fd (ho.keep (Xm.of_below h12 0 0) (.inr (Nat.zero_le _)))
 have HZ1:=Fd (And.intro bel.size h12.size)
 clear ho bel h12 b02 s0 v0 v1 v2 HR3 hb0
 go_upto_region 2 with fail
 rw [←hW2]
 clear hW2
 obtain ⟨lb,b0,b1,b2,g0,g1,g2⟩:=BB2
 obtain ⟨lt,t0,t1,t2,f0,f1,f2⟩:=RB
 have HB:=Fd bw
 cases FB
 ·clear HRC HFV HF
  go_wp2
  refine bodyPost_ret (v:= .tuple #[.agg #[.int .i64 FY.n, .slice A1 FY.b.length c1, .slice A2 FY.items.length c2], .int .i64 FK, .bool false]) (by simp [results,results29,go_sem,t0,t1,t2]) rfl ⟨_,rfl,?_,Qf HB.out (by omega) _ _ _⟩
  have hz:=HZ1.out
  refine (HO.out.set3 (g:=w.heap.size+1+1) (.inr (by omega)) _ _ _).wide (by omega) (by simp;omega)
 ·have hft:=Tp HFV.out
  have hval:=Tt (k:=((l.map RM.d).length - 1:Nat)) (by
   have:=hft.1
   rw [HLM.out] at this
   have hkn:Qc (l.map RM.d) ((l.length:Int) - 1)=true∧Zo (l.map RM.d) ((l.length:Int) - 1) x.d=true:=by simp only [Bool.and_eq_true] at this;exact this.2
   have hl:0 < l.length:=by have:=Xw hkn.1;omega
   rw [HLM.out,←Um hl]
   exact hkn.2) hft.2
  obtain ⟨k,rfl,hk⟩:=Vg hval
  rw [HLM.out] at hk
  have hik:Xl (l.map RM.d) k kd=decide (l[k].d.kind=kd):=by rw [Lf (by rw [HLM.out];exact hk),List.getElem_map]
  obtain ⟨b,off,A3,c3,A4,c4,A5,c5,A6,c6,rfl,hbB, -, -, -, -, -, -, -, -,hcell⟩:=HRC.out k hk
  obtain ⟨-,x1, -, -, -, -, -, -⟩:=hcell W2 (Zy bw hB)
  have HIK:=Fd hik
  clear hik hval hft HFV HRC HF hcell
  generalize l[k].d.kind=kk at*
  by_cases hkk:kk=kd
  ·subst hkk
   go_wp2
   refine bodyPost_ret (v:= .tuple #[.agg #[.int .i64 FY.n, .slice A1 FY.b.length c1, .slice A2 FY.items.length c2], .int .i64 k, .bool true]) (by simp [results,results29,go_sem,t0,t1,t2]) rfl ⟨.agg #[.int .i64 FY.n, .slice A1 FY.b.length c1, .slice A2 FY.items.length c2],by show _=Ending.returned (.tuple #[_, .int .i64 k, .bool (true && Xl (l.map RM.d) k kk)]);rw [HIK.out];simp,?_,Qf HB.out (by omega) _ _ _⟩
   have hz:=HZ1.out
   refine (HO.out.set3 (g:=w.heap.size+1+1) (.inr (by omega)) _ _ _).wide (by omega) (by simp;omega)
  ·have hkk':(kk !=kd)=true:=bne_iff_ne.2 hkk
   have HKK:=Fd hkk
   go_wp2
   refine bodyPost_ret (v:= .tuple #[.agg #[.int .i64 FY.n, .slice A1 FY.b.length c1, .slice A2 FY.items.length c2], .int .i64 k, .bool false]) (by simp [results,results29,go_sem,t0,t1,t2]) rfl ⟨.agg #[.int .i64 FY.n, .slice A1 FY.b.length c1, .slice A2 FY.items.length c2],by show _=Ending.returned (.tuple #[_, .int .i64 k, .bool (true && Xl (l.map RM.d) k kd)]);rw [HIK.out];simp [HKK.out],?_,Qf HB.out (by omega) _ _ _⟩
   have hz:=HZ1.out
   refine (HO.out.set3 (g:=w.heap.size+1+1) (.inr (by omega)) _ _ _).wide (by omega) (by simp;omega)
end Go.Proofs.YteldgdelmaeokaaGreatDoor
