/- Out of ValPu, EdP, EdD: the walks and plain laws that the claim needs. No condition but those that each theorem names. -/
import Derived.Test.YteldgdelmaeokaaGreatDoorGu
import Derived.Test.YteldgdelmaeokaaGreatDoorGv
import Derived.WalkSpells
import Derived.WalkLawsBesides
import Derived.Deep.RegionHeld3
import Derived.Test.YteldgdelmaeokaaGreatDoorGo
import Derived.Test.YteldgdelmaeokaaGreatDoorGl
set_option linter.unusedSimpArgs false
set_option linter.unusedVariables false
set_option maxHeartbeats 4000000
set_option maxRecDepth 100000
namespace Go.Proofs.YteldgdelmaeokaaGreatDoor
open Go.Proofs.Tryz Go.RowKit
theorem Va.tail {w:World} {B c:Nat} {A:Option Addr} {s:ByteArray} {l:List ByteArray} (h:Va w B (.slice A (l.length+1) c) (s::l)):Va w B (.slice (cutA A c 1 1) (l.length+1 - 1) (c - 1)) l:=by
 have hcm:l.length+1≤c∧c≤maxLen:=by
  obtain ⟨_,A',c',e,h1,h2,_⟩:=h
  cases e;exact ⟨h1,h2⟩
 have h1:=Sl.cutA h 1 (l.length+1) c (by omega) (by simp) hcm.1 hcm.2 (by decide)
 simp only [Nat.add_sub_cancel,Nat.mul_one,List.map_cons,List.drop_succ_cons,List.drop_zero] at h1
 rw [List.take_of_length_le (by simp)] at h1
 exact h1
def PutS (S:List ByteArray):Prop:=∀(vD:Value) (l:List RM) (k:Nat) (x p:VM) (vS:Value) (B:Nat) (w:World),Qz w B vD l→B≤w.heap.size→(∀r∈l,r.d.ok)→(∀r∈l,r.d.small 1048576)→Yf (l.map RM.d)=true→k < l.length→
 x.rd w B→x.d.size≤4194304→p.rd w B→p.d.size≤4194304→Va w B vS S→Zn (l.map RM.d) k x.d=true→Jk (l.map RM.d) k x.d S≠none→
 Calls prog 62 #[.agg #[vD], .int .i64 k,Qs x,vS,Qs p] w (Lm (Ue (Ta (l.map RM.d) p.d k x.d S)) w)
theorem put_first {D:List Zi} {k:Nat} {x:VM} {s:ByteArray} {S:List ByteArray} (hv:Zn D k x.d=true) (hk:k < D.length) (hw:Jk D k x.d (s::S)≠none):
  ∃(i k':Nat) (hi:i < x.items.length),Qy D k x.items.length s=i∧Qk D[k] x.n i=k'∧k' < D.length∧Zn D k' x.items[i].d=true∧Jk D k' x.items[i].d S≠none∧
   ∀(P:Zv),Ta D P k x.d (s::S)= .mk x.d.n x.d.b (x.d.items.set i (Ta D P k' x.items[i].d S)):=by
 have hl:x.d.items.length=x.items.length:=by rw [VM.items_d,List.length_map]
 rcases Yz D k x.items.length s with e|⟨i,hi,e⟩
 ·exact absurd (Ht (by omega)) hw
 ·rw [Hu e hi] at hw
  have hv':=Ut hv (j:=i) (by rw [hl];exact hi)
  rw [VM.d_items_at hi,VM.n_d] at hv'
  obtain ⟨k',e',hk'⟩:=Jy hv'
  have e2:=Pu hk x.n i
  rw [e'] at hv' hw
  refine ⟨i,k',hi,e,by rw [←e2,e'],hk',hv',hw,fun P=> ?_⟩
  rw [Pr (j:=i) (by rw [hl];exact e) (by rw [hl];exact hi),VM.d_items_at hi,VM.n_d,e']
theorem Jm {W:World} {g o:Nat} (a b c:Value) {k i:Nat} (hk:k≠g):(((W.setCell ⟨g,o,none⟩ a).setCell ⟨g,o+1,none⟩ b).setCell ⟨g,o+2,none⟩ c).cell? ⟨k,i,none⟩=W.cell? ⟨k,i,none⟩:=
 Ri (g:=g) hk [a,b,c] W o i
theorem vi_mem {x:VM} {g:Nat} (h:x.vi.ownBlock=some g):g∈x.bks:=by
 obtain ⟨n,b,vb,vi,l⟩:=x
 rw [VM.bks_mk]
 rw [show (VM.mk n b vb vi l).vi=vi from rfl] at h
 rw [h];simp
theorem row3 {w:World} {lo:Nat} {x:VM} {g c i:Nat} (h:x.own lo w) (ev:x.vi= .slice (some ⟨g,0,none⟩) x.items.length c) (hi:i < x.items.length):
  (w.cell? ⟨g,i*3,none⟩=some (.int .i64 x.items[i].n)∧w.cell? ⟨g,i*3+1,none⟩=some x.items[i].vb∧w.cell? ⟨g,i*3+2,none⟩=some x.items[i].vi)∧∀o,w.frozen? ⟨g,o,none⟩=false:=by
 have hr:=h.row
 rw [ev] at hr
 have hm:=Nat.mul_le_mul_right 3 (show i+1≤x.items.length by omega)
 have hc:∀u,u < 3→w.cell? ⟨g,i*3+u,none⟩=(Ze x.items[i])[u]?:=fun u hu=> by
  rw [hr.cellAt (i*3+u) (by omega),Vo Ze 3 Qj x.items i u hi hu]
 exact ⟨⟨hc 0 (by omega),hc 1 (by omega),hc 2 (by omega)⟩,fun o=> hr.frozenAt o⟩
theorem l22Put_any (S:List ByteArray):PutS S:=by
 induction S with
 |nil=>
  intro vD l k x p vS B w h hB ok sm hv hk hx hs hp hps hS hvx hw
  rw [Ro]
  have hCP:∀W,Below w.heap.size w W→Calls prog 31 #[Qs p] W (Lm (Ue p.d) W):=fun W hb=> Xx p B W (hp.bel (hb.mono hB)) (by have:=hb.size;omega) hps
  obtain ⟨A,c,rfl, -, -, -⟩:=h.open_
  obtain ⟨As,cs,rfl, -, -, -⟩:=hS.one
  obtain ⟨Ax,cx,ex, -⟩:=hx.bytes.open_
  obtain ⟨Ay,cy,ey, -⟩:=hx.its.open_
  obtain ⟨Ap,cp,ep, -⟩:=hp.bytes.open_
  obtain ⟨Aq,cq,eq, -⟩:=hp.its.open_
  unfold Qs at hCP ⊢
  rw [ep,eq] at hCP ⊢
  rw [ex,ey]
  have HCP:=Fs hCP
  clear hCP ex ey ep eq h hx hp hS hvx hw hs hps hv hk ok sm
  generalize p.d=pd at*
  generalize l.length=nl at*
  obtain ⟨W0,hW0⟩:∃W0,W0=((((w.alloc (.cells #[.slice A nl c] 26)).alloc (.cells #[.int .i64 x.n, .slice Ax x.b.length cx, .slice Ay x.items.length cy] 29)).alloc (.cells #[.int .i64 p.n, .slice Ap p.b.length cp, .slice Aq p.items.length cq] 29)).alloc (.cells #[.int .i64 0, .slice none 0 0, .slice none 0 0] 29)):=⟨_,rfl⟩
  have hb0:Below w.heap.size w W0:=by rw [hW0];exact ((((Fv w.heap.size w).alloc (Fu _) _).alloc (by simp) _).alloc (by simp;omega) _).alloc (by simp;omega) _
  have hz0:W0.heap.size=w.heap.size+4:=by rw [hW0];simp
  have p0:W0.cell? ⟨w.heap.size+1+1,0,none⟩=some (.int .i64 p.n):=by rw [hW0];simp [go_sem]
  have p1:W0.cell? ⟨w.heap.size+1+1,1,none⟩=some (.slice Ap p.b.length cp):=by rw [hW0];simp [go_sem]
  have p2:W0.cell? ⟨w.heap.size+1+1,2,none⟩=some (.slice Aq p.items.length cq):=by rw [hW0];simp [go_sem]
  have HR3:B3 W0 (w.heap.size+1+1+1) (.int .i64 0) (.slice none 0 0) (.slice none 0 0):=by
   rw [hW0]
   have:=B3.new (((w.alloc (.cells #[.slice A nl c] 26)).alloc (.cells #[.int .i64 x.n, .slice Ax x.b.length cx, .slice Ay x.items.length cy] 29)).alloc (.cells #[.int .i64 p.n, .slice Ap p.b.length cp, .slice Aq p.items.length cq] 29)) (.int .i64 0) (.slice none 0 0) (.slice none 0 0) 29
   simpa using this
  simp only [List.length_nil]
  go_enter func62,ntmps62
  go_upto_region 1 with fail
  rw [←hW0]
  clear hW0
  go_wp2_with fail
  refine (HCP.out _ hb0).mono ?_
  rintro e w4 ⟨v,rfl,ho,bel⟩
  have HB:=Fs (Zb bel hb0)
  have RB:=HR3.later bel
  obtain ⟨A1,c1,A2,c2,rfl⟩:=ho.agg
  have HO:=Fs ho
  have HZ:=Fs bel.size
  clear ho bel p0 p1 p2 HR3
  obtain ⟨lt,t0,t1,t2,f0,f1,f2⟩:=RB
  go_wp2
  refine bodyPost_ret (v:= .agg #[.int .i64 pd.n, .slice A1 pd.b.length c1, .slice A2 pd.items.length c2]) (by simp [results,results62,go_sem,t0,t1,t2]) rfl ⟨_,rfl,?_,Qm HB.out (by omega) _ _ _⟩
  refine (HO.out.set3 (g:=w.heap.size+1+1+1) (.inr (by omega)) _ _ _).wide (by omega) (by simp)
 |cons s S ih=>
  intro vD l k x p vS B w h hB ok sm hv hk hx hs hp hps hS hvx hw
  have hlm:(l.map RM.d).length=l.length:=List.length_map ..
  obtain ⟨i,k',hi,hf,hir,hk',hv',hw',hput⟩:=put_first hvx (by rw [hlm];exact hk) hw
  rw [List.getElem_map] at hir
  rw [hlm] at hk'
  have hi4:i≤4194304:=by
   have h2:=Zv.length_le (x.items.map VM.d)
   rw [List.length_map] at h2
   have h1:=hs
   rw [VM.size_d] at h1
   omega
  have hF:∀W,Below w.heap.size w W→Calls prog 36 #[.agg #[vD], .int .i64 k,Qs x, .string s] W fun e w'=> e= .returned (.int .i64 i)∧Below W.heap.size W w':=fun W hb=> by
   rw [←hf]
   exact Pc vD l k x s B W (h.below (hb.mono hB)) (by have:=hb.size;omega) ok sm (hx.bel (hb.mono hB)) (by
    have:=Pa hvx (fun r hr=> by obtain ⟨q,hq,rfl⟩:=List.mem_map.1 hr;exact sm q hq)
    rwa [VM.items_d,List.length_map] at this)
  have hC:∀W,Below w.heap.size w W→Calls prog 37 #[Ja l[k], .int .i64 x.n, .int .i64 i] W fun e w'=> e= .returned (.int .i64 k')∧Below W.heap.size W w':=fun W hb=> by
   rw [←hir]
   exact Vm (l.map RM.d) l[k] x.n i B W ((h.2 _ (Fw hk)).below (hb.mono hB)) (by have:=hb.size;omega) (by
    have:=Yc (Ui hv (k:=k) (by rw [hlm];exact hk))
    rwa [List.getElem_map] at this) (sm _ (Fw hk)) hi4
  have hCP:∀W,Below w.heap.size w W→Calls prog 31 #[Qs x] W (Lm (Ue x.d) W):=fun W hb=>
   Xx x B W (hx.bel (hb.mono hB)) (by have:=hb.size;omega) hs
  obtain ⟨As,cs,rfl,hcs,hms,hsc⟩:=hS.one
  simp only [List.length_cons] at*
  have hPU:∀W,Below w.heap.size w W→Calls prog 62 #[.agg #[vD], .int .i64 k',Qs x.items[i], .slice (cutA As cs 1 1) (S.length+1 - 1) (cs - 1),Qs p] W (Lm (Ue (Ta (l.map RM.d) p.d k' x.items[i].d S)) W):=fun W hb=>
   ih vD l k' x.items[i] p _ B W (h.below (hb.mono hB)) (by have:=hb.size;omega) ok sm hv hk' ((hx.bel (hb.mono hB)).its.2 _ (Fw hi)) (VM.size_item hi hs) (hp.bel (hb.mono hB)) hps (Va.tail (hS.below (hb.mono hB))) hv' hw'
  obtain ⟨bs,fs,rfl,hbs,hs0⟩:=hsc 0 (by omega)
  simp only [List.getElem_cons_zero,Nat.add_zero] at hs0
  obtain ⟨A,c,rfl,hc,hm, -⟩:=h.open_
  have hRC:=Zw h k hk
  obtain ⟨b,off,A1,c1,A2,c2,A3,c3,A4,c4,rfl,hbB,e1,e2,e3,e4,m1,m2,m3,m4,hcell⟩:=hRC
  unfold Ja at hC
  rw [e1,e2,e3,e4] at hC
  obtain ⟨Ax,cx,ex, -⟩:=hx.bytes.open_
  obtain ⟨Ay,cy,ey,hcy,hmy,hic⟩:=hx.its.open_
  obtain ⟨bi,fi,rfl,hbi,i0,i1,i2⟩:=hic i hi
  obtain ⟨A5,c5,e5, -⟩:=(hx.its.2 _ (Fw hi)).bytes.open_
  obtain ⟨A6,c6,e6, -⟩:=(hx.its.2 _ (Fw hi)).its.open_
  obtain ⟨Ap,cp,ep, -⟩:=hp.bytes.open_
  obtain ⟨Aq,cq,eq, -⟩:=hp.its.open_
  rw [e5] at i1
  rw [e6] at i2
  unfold Qs at hF hCP hPU ⊢
  rw [ep,eq] at hPU ⊢
  rw [e5,e6] at hPU
  rw [ex,ey] at hF hCP ⊢
  have hcut:=Ma (P:=prog) underlying47 sizeOf9 (some ⟨bs,fs,none⟩) (S.length+1) cs 1 1 rfl (by omega)
  have HPT:=Fs hput
  have HF:=Fs hF
  have HC:=Fs hC
  have HCP:=Fs hCP
  have HPU:=Fs hPU
  have HCL:=Fs hcell
  unfold maxLen at hm hms hmy
  have HI:=Fs (Ft hi (Ft hcy hmy))
  have hkl:=hk
  have hil:=hi
  have hnl:l.length≤9223372036854775807:=by omega
  have hnx:x.items.length≤9223372036854775807:=by omega
  have hns:S.length+1≤9223372036854775807:=by omega
  clear ih
  clear hput hF hC hCP hPU hcell ex ey ep eq e1 e2 e3 e4 e5 e6 m1 m2 m3 m4 h hx hp hS hvx hw hs hps hv ok sm hf hir hv' hw' hic hsc hc hm hcs hms hcy hmy hk' hlm
  obtain ⟨W0,hW0⟩:∃W0,W0=((((w.alloc (.cells #[.slice (some ⟨b,off,none⟩) l.length c] 26)).alloc (.cells #[.int .i64 x.n, .slice Ax x.b.length cx, .slice (some ⟨bi,fi,none⟩) x.items.length cy] 29)).alloc (.cells #[.int .i64 p.n, .slice Ap p.b.length cp, .slice Aq p.items.length cq] 29)).alloc (.cells #[.int .i64 0, .slice none 0 0, .slice none 0 0] 29)):=⟨_,rfl⟩
  have hb0:Below w.heap.size w W0:=by rw [hW0];exact ((((Fv w.heap.size w).alloc (Fu _) _).alloc (by simp) _).alloc (by simp;omega) _).alloc (by simp;omega) _
  have hz0:W0.heap.size=w.heap.size+4:=by rw [hW0];simp
  have s0:W0.cell? ⟨w.heap.size,0,none⟩=some (.slice (some ⟨b,off,none⟩) l.length c):=by rw [hW0];simp [go_sem]
  have v0:W0.cell? ⟨w.heap.size+1,0,none⟩=some (.int .i64 x.n):=by rw [hW0];simp [go_sem]
  have v1:W0.cell? ⟨w.heap.size+1,1,none⟩=some (.slice Ax x.b.length cx):=by rw [hW0];simp [go_sem]
  have v2:W0.cell? ⟨w.heap.size+1,2,none⟩=some (.slice (some ⟨bi,fi,none⟩) x.items.length cy):=by rw [hW0];simp [go_sem]
  have p0:W0.cell? ⟨w.heap.size+1+1,0,none⟩=some (.int .i64 p.n):=by rw [hW0];simp [go_sem]
  have p1:W0.cell? ⟨w.heap.size+1+1,1,none⟩=some (.slice Ap p.b.length cp):=by rw [hW0];simp [go_sem]
  have p2:W0.cell? ⟨w.heap.size+1+1,2,none⟩=some (.slice Aq p.items.length cq):=by rw [hW0];simp [go_sem]
  have HR3:B3 W0 (w.heap.size+1+1+1) (.int .i64 0) (.slice none 0 0) (.slice none 0 0):=by
   rw [hW0]
   have:=B3.new (((w.alloc (.cells #[.slice (some ⟨b,off,none⟩) l.length c] 26)).alloc (.cells #[.int .i64 x.n, .slice Ax x.b.length cx, .slice (some ⟨bi,fi,none⟩) x.items.length cy] 29)).alloc (.cells #[.int .i64 p.n, .slice Ap p.b.length cp, .slice Aq p.items.length cq] 29)) (.int .i64 0) (.slice none 0 0) (.slice none 0 0) 29
   simpa using this
  go_enter func62,ntmps62
  go_upto_region 1 with fail
  rw [←hW0]
  clear hW0
  go_wp2_with fail
  refine (HCP.out _ hb0).mono ?_
  rintro e w1 ⟨v,rfl,⟨x',hd,rfl,ho⟩,bel⟩
  have hxl:x'.items.length=x.items.length:=by have:=congrArg (fun q=> q.items.length) hd;simpa using this
  have hxi:i < x'.items.length:=by omega
  obtain ⟨h',ch,ev,hown⟩:=Jp ho.own.row (by omega)
  obtain ⟨A7,c7,e7, -⟩:=ho.own.rd.bytes.open_
  have hh1:=ho.rng h' (vi_mem hown)
  unfold Qs
  rw [e7,ev,hxl]
  obtain ⟨W2,hW2⟩:∃W2,W2=w1.alloc (.cells #[.int .i64 x'.n, .slice A7 x'.b.length c7, .slice (some ⟨h',0,none⟩) x.items.length ch] 29):=⟨_,rfl⟩
  have h12:Below w1.heap.size w1 W2:=by rw [hW2];exact (Fv _ _).alloc (Fu _) _
  have BB2:B3 W2 w1.heap.size (.int .i64 x'.n) (.slice A7 x'.b.length c7) (.slice (some ⟨h',0,none⟩) x.items.length ch):=by rw [hW2];exact B3.new w1 _ _ _ _
  have hz2:W2.heap.size=w1.heap.size+1:=by rw [hW2];simp
  have b01:=bel
  have b02:=bel.trans (h12.mono bel.size)
  have hb2:=Zb h12 (Zb bel hb0)
  have s2:=Ec b02 s0
  have q0:=Ec b02 v0
  have q1:=Ec b02 v1
  have q2:=Ec b02 v2
  have u0:=Ec b02 p0
  have u1:=Ec b02 p1
  have u2:=Ec b02 p2
  have HR2:=HR3.later b02
  have HO2:=Fs (Ft hd (Ft (ho.keep (Xq.of_below h12 0 0) (.inr (Eb _))) (Ft hown (Ft e7 ev))))
  have hs2:=Zc hs0 (hb2.mono hB) hbs
  have HZ1:=Fs bel.size
  have hz12:w.heap.size+4≤w1.heap.size:=by have:=bel.size;omega
  clear hd ho ev e7 hown bel h12 b01 s0 v0 v1 v2 p0 p1 p2 HR3
  generalize hxn:x'.n=xn' at*
  generalize hxb:x'.b.length=xb' at*
  have HXN:=Fs (Ft hxn hxb)
  clear hxn hxb
  go_upto_region 4 with fail
  rw [←hW2]
  clear hW2
  go_wp2_with fail
  have bq:=(Fv W2.heap.size W2).drew
  have bw:=hb2.drew
  refine wp_region_held_drew (S:=(fun w9=> w9.cell? ⟨w.heap.size,0,none⟩=some (.slice (some ⟨b,off,none⟩) l.length c)∧w9.cell? ⟨w.heap.size+1,0,none⟩=some (.int .i64 x.n)∧w9.cell? ⟨w.heap.size+1,1,none⟩=some (.slice Ax x.b.length cx)∧w9.cell? ⟨w.heap.size+1,2,none⟩=some (.slice (some ⟨bi,fi,none⟩) x.items.length cy)∧w9.cell? ⟨bs,fs,none⟩=some (.string s))) (by kernel_rfl) ?_ (fun hHeld=> ?_)
  ·(try dsimp only);exact ⟨s2,q0,q1,q2,hs2⟩
  refine Za 0 (some 20) hHeld _ ?_;try go_frame
  refine Za 1 (some 21) hHeld _ ?_;try go_frame
  refine Za 2 (some 22) hHeld _ ?_;try go_frame
  refine Za 3 (some 23) hHeld _ ?_;try go_frame
  refine Za 4 (some 24) hHeld _ ?_;try go_frame
  refine Za 5 (some 25) hHeld _ ?_;try go_frame
  refine Zh 6 (fun K hK=> ?_)
  go_simp
  refine (HF.out _ bw).mono ?_;rintro e w3 ⟨rfl,bel3⟩;have bq:=Zb bel3 bq;have bw:=Zb bel3 bw
  (try go_wp2_with fail)
  refine hK.out _ _ ?_ (fun hHeld=> ?_)
  ·(try dsimp only);exact ⟨Ec bq s2,Ec bq q0,Ec bq q1,Ec bq q2,Ec bq hs2⟩
  clear hK K
  try go_frame
  refine Za 7 (some 12) hHeld _ ?_;try go_frame
  refine wpAnyH_done (by kernel_rfl) ?_ _
  have s3:=Ec bq s2
  have q0:=Ec bq q0
  have q1:=Ec bq q1
  have q2:=Ec bq q2
  have u0:=Ec bq u0
  have u1:=Ec bq u1
  have u2:=Ec bq u2
  have hb3:=bw
  have HR2:=HR2.later bq
  have BB2:=BB2.later bq
  have HO2:=Fs (show x'.d=x.d∧Ug x' W0.heap.size w1.heap.size w3∧x'.vi.ownBlock=some h'∧_ from Ft HO2.out.1 (Ft (HO2.out.2.1.keep (Xq.of_below bq 0 0) (.inr (Eb _))) HO2.out.2.2))
  have hz3:=bq.size
  clear bel3 bq bw s2 hs2 hb2 HF
  obtain ⟨x0,x1,x2,x3,x4,x5,x6,x7⟩:=HCL.out w3 (Zu hb3 hB)
  have j0:=Zc i0 (hb3.mono hB) hbi
  have j1:=Zc i1 (hb3.mono hB) hbi
  have j2:=Zc i2 (hb3.mono hB) hbi
  have bq:=(Fv w3.heap.size w3).drew
  have bw:=hb3.drew
  have lbx:=BB2.lt
  have t2:=BB2.c2
  clear i0 i1 i2 HCL
  have HIX:=Fs hxi
  have hixy:=hi
  clear hxi
  go_wp2_with fail
  refine wp_region_held_drew (S:=(fun w9=> w9.cell? ⟨w.heap.size,0,none⟩=some (.slice (some ⟨b,off,none⟩) l.length c)∧w9.cell? ⟨w.heap.size+1,0,none⟩=some (.int .i64 x.n)∧w9.cell? ⟨w.heap.size+1,1,none⟩=some (.slice Ax x.b.length cx)∧w9.cell? ⟨w.heap.size+1,2,none⟩=some (.slice (some ⟨bi,fi,none⟩) x.items.length cy)∧w9.cell? ⟨b,off+k*8,none⟩=some (.string l[k].d.name)∧w9.cell? ⟨b,off+k*8+1,none⟩=some (.int .i64 l[k].d.kind)∧w9.cell? ⟨b,off+k*8+2,none⟩=some (.int .i64 l[k].d.size)∧w9.cell? ⟨b,off+k*8+3,none⟩=some (.bool l[k].d.little)∧w9.cell? ⟨b,off+k*8+4,none⟩=some (.slice A1 l[k].d.bytes.length c1)∧w9.cell? ⟨b,off+k*8+5,none⟩=some (.slice A2 l[k].d.names.length c2)∧w9.cell? ⟨b,off+k*8+6,none⟩=some (.slice A3 l[k].d.tags.length c3)∧w9.cell? ⟨b,off+k*8+7,none⟩=some (.slice A4 l[k].d.kids.length c4)∧w9.cell? ⟨w.heap.size+1+1,0,none⟩=some (.int .i64 p.n)∧w9.cell? ⟨w.heap.size+1+1,1,none⟩=some (.slice Ap p.b.length cp)∧w9.cell? ⟨w.heap.size+1+1,2,none⟩=some (.slice Aq p.items.length cq)∧w9.cell? ⟨bi,fi+i*3,none⟩=some (.int .i64 x.items[i].n)∧w9.cell? ⟨bi,fi+i*3+1,none⟩=some (.slice A5 x.items[i].b.length c5)∧w9.cell? ⟨bi,fi+i*3+2,none⟩=some (.slice A6 x.items[i].items.length c6)∧w9.cell? ⟨w1.heap.size,2,none⟩=some (.slice (some ⟨h',0,none⟩) x.items.length ch))) (by kernel_rfl) ?_ (fun hHeld=> ?_)
  ·(try dsimp only);exact ⟨s3,q0,q1,q2,x0,x1,x2,x3,x4,x5,x6,x7,u0,u1,u2,j0,j1,j2,t2⟩
  refine Za 0 (some 27) hHeld _ ?_;try go_frame
  refine Za 1 (some 28) hHeld _ ?_;try go_frame
  refine Za 2 (some 29) hHeld _ ?_;try go_frame
  refine Za 3 (some 30) hHeld _ ?_;try go_frame
  refine Za 4 (some 31) hHeld _ ?_;try go_frame
  refine Za 5 (some 32) hHeld _ ?_;try go_frame
  refine Za 6 (some 33) hHeld _ ?_;try go_frame
  refine Za 7 (some 34) hHeld _ ?_;try go_frame
  refine Za 8 (some 35) hHeld _ ?_;try go_frame
  refine Za 9 (some 36) hHeld _ ?_;try go_frame
  refine Za 10 (some 37) hHeld _ ?_;try go_frame
  refine Za 11 (some 38) hHeld _ ?_;try go_frame
  refine Za 13 (some 40) hHeld _ ?_;try go_frame
  refine Za 14 (some 41) hHeld _ ?_;try go_frame
  refine Za 15 (some 42) hHeld _ ?_;try go_frame
  refine Za 16 (some 43) hHeld _ ?_;try go_frame
  refine Za 17 (some 44) hHeld _ ?_;try go_frame
  refine Za 18 (some 45) hHeld _ ?_;try go_frame
  refine Za 19 (some 46) hHeld _ ?_;try go_frame
  refine Za 20 (some 47) hHeld _ ?_;try go_frame
  refine Zh 12 (fun K hK=> ?_)
  go_simp
  refine (HC.out _ bw).mono ?_;rintro e w6 ⟨rfl,bel6⟩;have bq:=Zb bel6 bq;have bw:=Zb bel6 bw
  (try go_wp2_with fail)
  refine hK.out _ _ ?_ (fun hHeld=> ?_)
  ·(try dsimp only);first|exact ⟨Ec bq s3,Ec bq q0,Ec bq q1,Ec bq q2,Ec bq x0,Ec bq x1,Ec bq x2,Ec bq x3,Ec bq x4,Ec bq x5,Ec bq x6,Ec bq x7,Ec bq u0,Ec bq u1,Ec bq u2,Ec bq j0,Ec bq j1,Ec bq j2,Ec bq t2⟩|exact ⟨(Jm _ _ _ (by omega)).trans (Ec bq s3),(Jm _ _ _ (by omega)).trans (Ec bq q0),(Jm _ _ _ (by omega)).trans (Ec bq q1),(Jm _ _ _ (by omega)).trans (Ec bq q2),(Jm _ _ _ (by omega)).trans (Ec bq x0),(Jm _ _ _ (by omega)).trans (Ec bq x1),(Jm _ _ _ (by omega)).trans (Ec bq x2),(Jm _ _ _ (by omega)).trans (Ec bq x3),(Jm _ _ _ (by omega)).trans (Ec bq x4),(Jm _ _ _ (by omega)).trans (Ec bq x5),(Jm _ _ _ (by omega)).trans (Ec bq x6),(Jm _ _ _ (by omega)).trans (Ec bq x7),(Jm _ _ _ (by omega)).trans (Ec bq u0),(Jm _ _ _ (by omega)).trans (Ec bq u1),(Jm _ _ _ (by omega)).trans (Ec bq u2),(Jm _ _ _ (by omega)).trans (Ec bq j0),(Jm _ _ _ (by omega)).trans (Ec bq j1),(Jm _ _ _ (by omega)).trans (Ec bq j2),(Jm _ _ _ (by omega)).trans (Ec bq t2)⟩
  clear hK K
  try go_frame
  refine Zh 21 (fun K hK=> ?_)
  go_simp
  have hz7:=bq.size;refine (HPU.out _ bw).mono ?_;rintro e w8 ⟨v8,rfl,⟨z,hzd,rfl,hoz⟩,bel8⟩;have bq:=Zb bel8 bq;have bw:=Zb bel8 bw;obtain ⟨A8,c8,e8, -⟩:=hoz.own.rd.bytes.open_;obtain ⟨A9,c9,e9, -⟩:=hoz.own.rd.its.open_;unfold Qs;rw [e8,e9]
  (try go_wp2_with fail)
  refine hK.out _ _ ?_ (fun hHeld=> ?_)
  ·(try dsimp only);first|exact ⟨Ec bq s3,Ec bq q0,Ec bq q1,Ec bq q2,Ec bq x0,Ec bq x1,Ec bq x2,Ec bq x3,Ec bq x4,Ec bq x5,Ec bq x6,Ec bq x7,Ec bq u0,Ec bq u1,Ec bq u2,Ec bq j0,Ec bq j1,Ec bq j2,Ec bq t2⟩|exact ⟨(Jm _ _ _ (by omega)).trans (Ec bq s3),(Jm _ _ _ (by omega)).trans (Ec bq q0),(Jm _ _ _ (by omega)).trans (Ec bq q1),(Jm _ _ _ (by omega)).trans (Ec bq q2),(Jm _ _ _ (by omega)).trans (Ec bq x0),(Jm _ _ _ (by omega)).trans (Ec bq x1),(Jm _ _ _ (by omega)).trans (Ec bq x2),(Jm _ _ _ (by omega)).trans (Ec bq x3),(Jm _ _ _ (by omega)).trans (Ec bq x4),(Jm _ _ _ (by omega)).trans (Ec bq x5),(Jm _ _ _ (by omega)).trans (Ec bq x6),(Jm _ _ _ (by omega)).trans (Ec bq x7),(Jm _ _ _ (by omega)).trans (Ec bq u0),(Jm _ _ _ (by omega)).trans (Ec bq u1),(Jm _ _ _ (by omega)).trans (Ec bq u2),(Jm _ _ _ (by omega)).trans (Ec bq j0),(Jm _ _ _ (by omega)).trans (Ec bq j1),(Jm _ _ _ (by omega)).trans (Ec bq j2),(Jm _ _ _ (by omega)).trans (Ec bq t2)⟩
  clear hK K
  try go_frame
  refine Za 22 (some 49) hHeld _ ?_;try go_frame
  refine Zh 23 (fun K hK=> ?_)
  (try go_simp)
  have oz8:=HO2.out.2.1.keep (Xq.of_below bq 0 0) (.inr (Eb _));obtain ⟨⟨y0,y1,y2⟩,yf⟩:=row3 oz8.own (by rw [HO2.out.2.2.2.2,hxl]) HIX.out;have y3:=yf (i*3);have y4:=yf (i*3+1);have y5:=yf (i*3+2);clear yf;go_simp
  refine hK.out _ _ ?_ (fun hHeld=> ?_)
  ·(try dsimp only);first|exact ⟨Ec bq s3,Ec bq q0,Ec bq q1,Ec bq q2,Ec bq x0,Ec bq x1,Ec bq x2,Ec bq x3,Ec bq x4,Ec bq x5,Ec bq x6,Ec bq x7,Ec bq u0,Ec bq u1,Ec bq u2,Ec bq j0,Ec bq j1,Ec bq j2,Ec bq t2⟩|exact ⟨(Jm _ _ _ (by omega)).trans (Ec bq s3),(Jm _ _ _ (by omega)).trans (Ec bq q0),(Jm _ _ _ (by omega)).trans (Ec bq q1),(Jm _ _ _ (by omega)).trans (Ec bq q2),(Jm _ _ _ (by omega)).trans (Ec bq x0),(Jm _ _ _ (by omega)).trans (Ec bq x1),(Jm _ _ _ (by omega)).trans (Ec bq x2),(Jm _ _ _ (by omega)).trans (Ec bq x3),(Jm _ _ _ (by omega)).trans (Ec bq x4),(Jm _ _ _ (by omega)).trans (Ec bq x5),(Jm _ _ _ (by omega)).trans (Ec bq x6),(Jm _ _ _ (by omega)).trans (Ec bq x7),(Jm _ _ _ (by omega)).trans (Ec bq u0),(Jm _ _ _ (by omega)).trans (Ec bq u1),(Jm _ _ _ (by omega)).trans (Ec bq u2),(Jm _ _ _ (by omega)).trans (Ec bq j0),(Jm _ _ _ (by omega)).trans (Ec bq j1),(Jm _ _ _ (by omega)).trans (Ec bq j2),(Jm _ _ _ (by omega)).trans (Ec bq t2)⟩
  clear hK K
  try go_frame
  refine wpAnyH_done (by kernel_rfl) ?_ _
  obtain ⟨Wf,hWf⟩:∃Wf,Wf=((w8.setCell ⟨h',i*3,none⟩ (.int .i64 z.n)).setCell ⟨h',i*3+1,none⟩ (.slice A8 z.b.length c8)).setCell ⟨h',i*3+2,none⟩ (.slice A9 z.items.length c9):=⟨_,rfl⟩
  rw [←hWf]
  have hxd:=HO2.out.1
  have oz8:=HO2.out.2.1.keep (Xq.of_below bq 0 0) (.inr (Eb _))
  obtain ⟨ho1,ho2,ho3⟩:=HO2.out.2.2
  have B8:=BB2.later bq
  have R8:=HR2.later bq
  have hbx:Te w8 W0.heap.size w1.heap.size 0 x':=⟨fun j u hu=> by
   rw [Nat.zero_add]
   simp only [Ze,ho2,ho3,HXN.out.1,HXN.out.2,hxl] at hu
   match j,hu with
   |0,hu=> simp only [List.getElem?_cons_zero,Option.some.injEq] at hu;subst hu;exact B8.c0
   |1,hu=> simp only [List.getElem?_cons_succ,List.getElem?_cons_zero,Option.some.injEq] at hu;subst hu;exact B8.c1
   |2,hu=> simp only [List.getElem?_cons_succ,List.getElem?_cons_zero,Option.some.injEq] at hu;subst hu;exact B8.c2
   |j+3,hu=> simp at hu,oz8.own,oz8.nd,fun hm=> by have:=(oz8.rng _ hm).2;omega⟩
  have hpb:=(Te.put (t:= [i]) (y:=x'.items[i]'HIX.out) hbx (by rw [VM.sub_at HIX.out,VM.sub_nil]) (p:=z) ⟨hoz.own.base (by omega),hoz.nd,fun q hq=> .inl (fun hm=> by have:=(oz8.rng q hm).2;have:=(hoz.rng q hq).1;omega)⟩ (fun hq=> by have:=(hoz.rng _ hq).1;omega)).1
  rw [VM.adr_at HIX.out ho1,VM.adr_nil] at hpb
  have hpw:Qu w8 h' (i*3) (Ze z)=Wf:=by rw [hWf];unfold Ze;rw [e8,e9];rfl
  rw [hpw] at hpb
  have g0:=hpb.cells 0 _ rfl
  have g1:=hpb.cells 1 _ rfl
  have g2:=hpb.cells 2 _ rfl
  rw [VM.put_at HIX.out] at g0 g1 g2
  simp only [VM.n_mk,VM.vb_mk,VM.vi_mk,Nat.zero_add,ho2,ho3,HXN.out.1,HXN.out.2,hxl] at g0 g1 g2
  have R9:B3 Wf (w.heap.size+1+1+1) (.int .i64 0) (.slice none 0 0) (.slice none 0 0):=by
   rw [hWf]
   refine ⟨by simpa using R8.lt,(Jm _ _ _ (by omega)).trans R8.c0,(Jm _ _ _ (by omega)).trans R8.c1,(Jm _ _ _ (by omega)).trans R8.c2,?_,?_,?_⟩
   all_goals simp only [World.frozen?_setCell]
   ·exact R8.f0
   ·exact R8.f1
   ·exact R8.f2
  have hbf:Below w.heap.size w Wf:=by rw [←hpw];exact He _ _ _ bw (by omega)
  have HPB:=Fs hpb
  have hzz:(VM.put z x' [i]).d=Ta (l.map RM.d) p.d k x.d (s::S):=by rw [VM.put_d z x' i HIX.out,hxd,hzd,HPT.out]
  have HZZ:=Fs hzz
  have HBF:=Fs hbf
  have HV2:=Fs (show Qs (VM.put z x' [i])= .agg #[.int .i64 xn', .slice A7 xb' c7, .slice (some ⟨h',0,none⟩) x.items.length ch] by rw [VM.put_at HIX.out];unfold Qs;simp only [VM.n_mk,VM.vb_mk,VM.vi_mk,ho2,ho3,HXN.out.1,HXN.out.2,hxl])
  have hzW:W0.heap.size≤Wf.heap.size:=by have:=R9.lt;omega
  clear hpb hpw hzz hbf hbx B8 R8 oz8 hoz hzd e8 e9 bel8 bel6 bq bw HO2 hWf BB2 HR2
  obtain ⟨lt,r0,r1,r2,f0,f1,f2⟩:=R9
  go_wp2
  refine bodyPost_ret (v:= .agg #[.int .i64 xn', .slice A7 xb' c7, .slice (some ⟨h',0,none⟩) x.items.length ch]) (by simp [results,results62,go_sem,r0,r1,r2]) rfl ⟨_,rfl,⟨_,HZZ.out,HV2.out.symm,?_⟩,Qm HBF.out (by omega) _ _ _⟩
  have hlq:∀g∈(VM.put z x' [i]).bks,W0.heap.size≤g∧g < Wf.heap.size:=HPB.out.own.lt
  have o1:Ug (VM.put z x' [i]) W0.heap.size Wf.heap.size Wf:=⟨HPB.out.own,HPB.out.nd,hlq⟩
  refine (o1.keep (lo':=w.heap.size+1+1+1) (hi':=w.heap.size+4) ?_ (.inr (by omega))).wide (by omega) (by simp)
  repeat (refine Xq.setCell ?_ (by show _≤w.heap.size+1+1+1;omega) (by show w.heap.size+1+1+1 < _;omega) _)
  exact Xq.refl _ _ _
def Qv (D:List Zi) (x:Zv) (ok:Bool) (S:List ByteArray) (chg:Int→Zv→Option Zv):Zv × Bool:=
 if ok && (Qd D ((D.length:Int) - 1) && Zn D ((D.length:Int) - 1) x) then
  match Jk D (D.length - 1:Nat) x S with
  |none=> (x,false)
  |some (k,y)=> match chg k y with|none=> (x,false)|some p=> (Ta D p (D.length - 1:Nat) x S,true)
 else (x,false)
theorem Mq {D:List Zi} {x:Zv} {ok:Bool} {S:List ByteArray} {chg:Int→Zv→Option Zv} (h:(ok && (Qd D ((D.length:Int) - 1) && Zn D ((D.length:Int) - 1) x))=false):Qv D x ok S chg=(x,false):=by
 unfold Qv;rw [if_neg (by rw [h];exact Bool.false_ne_true)]
theorem Oq {D:List Zi} {x:Zv} {ok:Bool} {S:List ByteArray} {chg:Int→Zv→Option Zv} (h:Jk D (D.length - 1:Nat) x S=none):Qv D x ok S chg=(x,false):=by
 unfold Qv;rw [h];split <;> rfl
theorem Xz {D:List Zi} {x y:Zv} {ok:Bool} {S:List ByteArray} {chg:Int→Zv→Option Zv} {k:Int} (hw:Jk D (D.length - 1:Nat) x S=some (k,y)) (hc:chg k y=none):Qv D x ok S chg=(x,false):=by
 unfold Qv;rw [hw];simp only [hc];split <;> rfl
theorem Un {D:List Zi} {x y p:Zv} {ok:Bool} {S:List ByteArray} {chg:Int→Zv→Option Zv} {k:Int} (h:(ok && (Qd D ((D.length:Int) - 1) && Zn D ((D.length:Int) - 1) x))=true) (hw:Jk D (D.length - 1:Nat) x S=some (k,y)) (hc:chg k y=some p):
  Qv D x ok S chg=(Ta D p (D.length - 1:Nat) x S,true):=by
 unfold Qv;rw [if_pos h,hw];simp only [hc]
theorem Xn {D:List Zi} {x y:Zv} {ok:Bool} {S:List ByteArray} {k:Int} (h:Ya D x ok S=(y,k,true)):(ok && (Qd D ((D.length:Int) - 1) && Zn D ((D.length:Int) - 1) x))=true∧Jk D (D.length - 1:Nat) x S=some (k,y):=by
 unfold Ya at h
 split at h
 ·rename_i h0
  refine ⟨h0,?_⟩
  split at h
  ·simp at h
  ·rename_i k' y' hw
   simp only [Prod.mk.injEq,and_true] at h
   rw [hw,h.1,h.2]
 ·simp at h
theorem Ot {D:List Zi} {x y:Zv} {ok:Bool} {S:List ByteArray} {k:Int} (h:Ya D x ok S=(y,k,false)) (chg:Int→Zv→Option Zv):Qv D x ok S chg=(x,false):=by
 unfold Ya at h
 split at h
 ·split at h
  ·rename_i hw;exact Oq hw
  ·simp at h
 ·rename_i h0;exact Mq (by simpa using h0)
def Kh (D:List Zi) (P:Zv) (k:Int) (_:Zv):Option Zv:=if Qd D k && Zn D k P then some P else none
theorem repC_yes {D:List Zi} {P:Zv} {k:Int} (h:(Qd D k && Zn D k P)=true) (y:Zv):Kh D P k y=some P:=by unfold Kh;rw [if_pos h]
theorem repC_no {D:List Zi} {P:Zv} {k:Int} (h:(Qd D k && Zn D k P)=false) (y:Zv):Kh D P k y=none:=by unfold Kh;rw [if_neg (by rw [h];exact Bool.false_ne_true)]
theorem Zv.sizes_set {l:List Zv} {j:Nat} (hj:j < l.length) (p:Zv):Zv.sizes (l.set j p)≤Zv.sizes l+p.size∧(∀n,p.size≤l[j].size+n→Zv.sizes (l.set j p)≤Zv.sizes l+n):=by
 have e1:Zv.sizes l=Zv.sizes (l.take j)+(1+l[j].size+Zv.sizes (l.drop (j+1))):=by
  conv=> lhs;rw [←List.take_append_drop j l,List.drop_eq_getElem_cons hj]
  rw [Zv.sizes_append,Zv.sizes_cons]
 have e2:Zv.sizes (l.set j p)=Zv.sizes (l.take j)+(1+p.size+Zv.sizes (l.drop (j+1))):=by
  rw [List.set_eq_take_append_cons_drop,if_pos hj,Zv.sizes_append,Zv.sizes_cons]
 exact ⟨by omega,fun n h=> by omega⟩
theorem Ge {D:List Zi} {p:Zv}:∀{t:List ByteArray} {k k':Int} {x y:Zv},Jk D k x t=some (k',y)→(Ta D p k x t).size≤x.size+p.size
 | [],k,k',x,y,hw=> by rw [Ro];omega
 |s::t,k,k',x,y,hw=> by
  rcases Yz D k x.items.length s with e|⟨j,hj,e⟩
  ·rw [Tm (by omega)] at hw;cases hw
  ·rw [Us e hj] at hw
   rw [Pr e hj,Zv.size_mk]
   have:=(Zv.sizes_set hj (Ta D p (Ul D k x.n j) x.items[j] t)).2 p.size (by have:=Ge (p:=p) hw;omega)
   have e2:x.size=x.b.length+Zv.sizes x.items:=by conv=> lhs;rw [Zv.eta x,Zv.size_mk]
   omega
theorem Iz {D:List Zi} {x FX:Zv} {ok:Bool} {S:List ByteArray} {chg:Int→Zv→Option Zv} {b:Bool} {N:Nat} (hN:∀k y p,Jk D (D.length - 1:Nat) x S=some (k,y)→chg k y=some p→p.size≤N) (h:Qv D x ok S chg=(FX,b)):FX.size≤x.size+N:=by
 unfold Qv at h
 split at h
 ·split at h
  ·cases h;omega
  ·rename_i k y hw
   split at h
   ·cases h;omega
   ·rename_i p hc
    cases h
    have h1:=Ge (p:=p) hw
    have h2:=hN k y p hw hc
    omega
 ·cases h;omega
def ChE (x':VM) (t:List Nat) (lo g:Nat) (c:Option Zv) (W:World) (e:Ending) (W':World):Prop:=
 Below lo W W'∧((c=none∧e= .returned (.bool false))∨∃z:VM,e= .returned (.bool true)∧c=some z.d∧Te W' lo g 0 (VM.put z x' t))
theorem VM.own_later {lo:Nat} {w w':World} {x:VM} (h:x.own lo w) (hb:Below w.heap.size w w'):x.own lo w':=h.keep fun g hg=> hb.block g (h.lt g hg).2
theorem Te.later {w w':World} {lo g o:Nat} {x:VM} (h:Te w lo g o x) (hb:Below w.heap.size w w'):Te w' lo g o x:=
 ⟨fun i u hu=> Ec hb (h.cells i u hu),VM.own_later h.own hb,h.nd,h.out⟩
theorem Fq.later {D:List Zi} {x:Zv} {S:List ByteArray} {w w':World} {j:Nat} {y:VM} {k:Nat} (h:Fq D x S w w.heap.size j y k) (hb:Below w.heap.size w w'):Fq D x S w' w'.heap.size j y k:=
 ⟨(h.rd.bel hb).more hb.size,h.sz,h.val,h.walk⟩
theorem Hs.later {D:List Zi} {x:VM} {S:List ByteArray} {w w':World} {lo g o j:Nat} {t:List Nat} {y:VM} {k g' o':Nat} (p:Hs D x S w lo g o j t y k g' o') (hb:Below w.heap.size w w'):Hs D x S w' lo g o j t y k g' o':=
 ⟨p.sub,VM.own_later p.own hb,p.rdi.later hb,p.adr,p.pre,Ec hb p.c0,Ec hb p.c1,Ec hb p.c2,p.put⟩
theorem Te.set {D:List Zi} {x:VM} {S:List ByteArray} {W W':World} {lo g j:Nat} {t:List Nat} {y z:VM} {k g' o':Nat} (h:Te W lo g 0 x) (hlo:lo≤g) (p:Hs D x S W lo g 0 j t y k g' o') (hb:Below W.heap.size W W') (hz:z.own lo W') (hn:z.bks.Nodup) (hr:∀q∈z.bks,W.heap.size≤q∨q∈y.bks) (hgz:g ∉ z.bks):
  Te (Qu W' g' o' (Ze z)) lo g 0 (VM.put z x t)∧lo≤g':=by
 have h2:=h.later hb
 have:=Te.put h2 p.sub (p:=z) ⟨hz,hn,fun q hq=> (hr q hq).imp (fun hq' hm=> by have:=(h.own.lt q hm).2;omega) id⟩ hgz
 rw [p.adr] at this
 obtain ⟨h3,h4, -⟩:=this
 refine ⟨h3,?_⟩
 rcases h4 with e|e
 ·have e:g'=g:=e
  omega
 ·exact (h.own.lt _ e).1
theorem VM.adr_frozen {lo:Nat} {w:World}:∀{t:List Nat} {x y:VM} {g o:Nat},x.sub t=some y→x.own lo w→(∀i,i < 3→w.frozen? ⟨g,o+i,none⟩=false)→∀i,i < 3→w.frozen? ⟨(x.adr g o t).1,(x.adr g o t).2+i,none⟩=false
 | [],x,y,g,o,_,_,hf=> by rw [VM.adr_nil];exact hf
 |j::t,x,y,g,o,h,hx,hf=> by
  obtain ⟨hj,h⟩:=VM.sub_lt h
  have hrow:=hx.row
  obtain ⟨q,c,ev,hq⟩:=Jp hrow (by omega)
  rw [VM.adr_at hj hq]
  refine VM.adr_frozen h (hx.its _ (Fw hj)) fun i _=> ?_
  rw [ev] at hrow
  exact hrow.frozenAt _
theorem Hs.frozen {D:List Zi} {x:VM} {S:List ByteArray} {W:World} {lo g j:Nat} {t:List Nat} {y:VM} {k g' o':Nat} (h:Te W lo g 0 x) (hf:∀i,i < 3→W.frozen? ⟨g,i,none⟩=false) (p:Hs D x S W lo g 0 j t y k g' o'):∀i,i < 3→W.frozen? ⟨g',o'+i,none⟩=false:=by
 have:=VM.adr_frozen p.sub h.own (g:=g) (o:=0) (fun i hi=> by rw [Nat.zero_add];exact hf i hi)
 rw [p.adr] at this
 exact this
end Go.Proofs.YteldgdelmaeokaaGreatDoor
