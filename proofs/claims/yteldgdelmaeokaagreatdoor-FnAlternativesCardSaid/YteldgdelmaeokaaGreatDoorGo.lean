/- The walks of impl.CopyValue: a value copied into memory of its own. Condition: the value reads in memory and is small. -/
import Derived.Test.YteldgdelmaeokaaGreatDoorGn
import Derived.Test.YteldgdelmaeokaaGreatDoorGf
import Derived.WalkSpells
import Derived.WalkLawsBesides
import Derived.Deep.RegionHeld3
import Derived.Deep.DeepCutAuto
set_option linter.unusedSimpArgs false
set_option linter.unusedVariables false
set_option maxHeartbeats 4000000
set_option maxRecDepth 100000
namespace Go.Proofs.YteldgdelmaeokaaGreatDoor
open Go.Proofs.Tryz Go.RowKit
def CpI (x:VM):Prop:=∀(B:Nat) (w:World),x.rd w B→B≤w.heap.size→x.d.size≤4194304→Calls prog 27 #[Qs x] w (Lm (Ue x.d) w)
theorem Fl (x:VM):CpI x:=by
 induction x using VM.induct with
 |h nn b vb vi l ih=>
 intro B w h hB hs
 obtain ⟨i0,hi,hz0,hz1,hz2⟩:=info_parts info_value
 obtain ⟨i1,hj,hy0,hy1,hy2⟩:=info_parts info_u8
 have hb':=h.bytes
 have hi':=h.its
 simp only [VM.vb_mk,VM.b_mk,VM.vi_mk,VM.items_mk] at hb' hi'
 rw [VM.d_mk,Zv.size_mk] at hs
 have hll:=Zv.length_le (l.map VM.d)
 rw [List.length_map] at hll
 have hsm:∀x∈l,x.d.size≤4194304:=fun x hx=> by have:=Zv.size_le_of_mem (List.mem_map_of_mem (f:=VM.d) hx);omega
 have IH:=Fs (Ft ih hsm)
 have HI:=Fs (Ft hb' hi')
 have h1:b.length≤4194304:=by omega
 have h2:l.length≤4194304:=by omega
 obtain ⟨A1,c1,rfl,hc1,hm1, -⟩:=hb'.open_
 obtain ⟨A2,c2,rfl,hc2,hm2,hcell⟩:=hi'.open_
 unfold maxLen at hm1 hm2
 have HC:=Fs hcell
 clear ih h hs hsm hi' hb' hll hcell
 rw [VM.d_mk]
 show Calls prog 27 #[.agg #[.int .i64 nn, .slice A1 b.length c1, .slice A2 l.length c2]] w _
 obtain ⟨W0,hW0⟩:∃W0,W0=(w.alloc (.cells #[.int .i64 nn, .slice A1 b.length c1, .slice A2 l.length c2] 29)).alloc (.cells #[.int .i64 0, .slice none 0 0, .slice none 0 0] 29):=⟨_,rfl⟩
 have hbW:Below w.heap.size w W0:=by rw [hW0];exact ((Fv w.heap.size w).alloc (Fu _) _).alloc (by simp) _
 have hW0z:w.heap.size+2≤W0.heap.size∧W0.heap.size≤w.heap.size+2:=by rw [hW0];simp
 have k0:W0.cell? ⟨w.heap.size,0,none⟩=some (.int .i64 nn):=by rw [hW0];simp [go_sem]
 have k1:W0.cell? ⟨w.heap.size,1,none⟩=some (.slice A1 b.length c1):=by rw [hW0];simp [go_sem]
 have k2:W0.cell? ⟨w.heap.size,2,none⟩=some (.slice A2 l.length c2):=by rw [hW0];simp [go_sem]
 have r0:W0.cell? ⟨w.heap.size+1,0,none⟩=some (.int .i64 0):=by rw [hW0];simp [go_sem]
 have r1:W0.cell? ⟨w.heap.size+1,1,none⟩=some (.slice none 0 0):=by rw [hW0];simp [go_sem]
 have r2:W0.cell? ⟨w.heap.size+1,2,none⟩=some (.slice none 0 0):=by rw [hW0];simp [go_sem]
 have fr:∀i,W0.frozen? ⟨w.heap.size+1,i,none⟩=false:=fun i=> by rw [hW0];simp [go_sem]
 go_enter func27,ntmps27
 go_upto_region 1 with fail
 rw [←hW0]
 clear hW0
 go_cut [3] (fun s3 wx=> CpCut (w.heap.size+2) W0 nn b s3 wx)
 case first=>
  refine wp_region_held_drew (S:=fun w9=> w9.cell? ⟨w.heap.size,0,none⟩=some (.int .i64 nn)∧w9.cell? ⟨w.heap.size,1,none⟩=some (.slice A1 b.length c1)∧w9.cell? ⟨w.heap.size,2,none⟩=some (.slice A2 l.length c2)) (by kernel_rfl) ?_ (fun hHeld=> ?_)
  ·exact ⟨k0,k1,k2⟩
  obtain ⟨X0,hX0⟩:∃V,V=W0.drew:=⟨_,rfl⟩
  rw [←hX0] at hHeld ⊢
  have hbq:Below W0.heap.size W0 X0:=by rw [hX0];exact (Fv _ _).drew
  have hbq0:Below W0.heap.size W0 X0:=hbq
  clear hX0
  refine Za 0 (some 6) hHeld _ ?_;try go_frame
  refine Za 1 (some 7) hHeld _ ?_;try go_frame
  refine Za 3 (some 9) hHeld _ ?_;try go_frame
  refine Za 4 (some 10) hHeld _ ?_;try go_frame
  refine Za 6 (some 12) hHeld _ ?_;try go_frame
  refine Za 7 (some 13) hHeld _ ?_;try go_frame
  refine Za 8 (some 14) hHeld _ ?_;try go_frame
  refine rgThree 2 9 11 (by kernel_rfl) rfl rfl rfl (by rfl) (by rfl) (by rfl) (fun K hK=> ?_) (fun K hK=> ?_) (fun K hK=> ?_)
  ·(try go_simp)
   obtain ⟨X1,hY⟩:∃V,V=X0.alloc (.cells #[] 5):=⟨_,rfl⟩
   rw [←hY]
   have hx:Below X0.heap.size X0 X1:=by rw [hY];exact (Fv _ _).alloc (Fu _) _
   have hbqE:=hbq.size
   have hbq:=hbq.trans (hx.mono hbq.size)
   have he:X1.ownsRow (w.heap.size+2) 5 1 (.slice (some ⟨X0.heap.size,0,none⟩) 0 0) 0 []:=by rw [hY];exact Ji rfl (by omega)
   clear hY hbqE
   refine hK.out _ _ ?_ (fun hHeld=> ?_)
   ·(try dsimp only);exact ⟨Zc k0 hbq (by omega),Zc k1 hbq (by omega),Zc k2 hbq (by omega)⟩
   clear hK K
   try go_frame
   refine rgThree 5 9 11 (by kernel_rfl) rfl rfl rfl (by rfl) (by rfl) (by rfl) (fun K hK=> ?_) (fun K hK=> ?_) (fun K hK=> ?_)
   ·refine Je _ (.tmp 8) (.tmp 10) 22 rfl (w.heap.size+2) 5 i1 (.int .u8 0) 1 1 underlying22 hj hy0 hy1 hy2 rfl (by decide) _ 0 [] rfl (by exact he) B b.length _ (Uy b) rfl (by exact Sl.below HI.out.1 ((hbW.trans (hbq.mono (by omega))).mono hB)) (Xm _) (by omega) (by unfold maxLen;omega) (by have:=hbq.size;omega) ?_
    intro v1 X2 hv hg hvv
    simp only [Nat.zero_add,List.nil_append] at hv
    obtain ⟨Av,cv,rfl⟩:=Zq hv
    have hvv:Value.ownBlock (.slice Av b.length cv)=some (X0.heap.size)∨Value.ownBlock (.slice Av b.length cv)=some X1.heap.size:=hvv
    have hg:X1.grownBy X2 (some (X0.heap.size)):=hg
    have hbq:=hbq.grown hg hbq.size (by intro k hk;have:=(he.lt (X0.heap.size) rfl).1;have:=Fz hk;omega)
    clear he hg hvv
    refine hK.out _ _ ?_ (fun hHeld=> ?_)
    ·(try dsimp only);exact ⟨Zc k0 hbq (by omega),Zc k1 hbq (by omega),Zc k2 hbq (by omega)⟩
    clear hK K
    try go_frame
    refine Rd 9 11 (fun K hK=> ?_) (fun K hK=> ?_)
    ·refine Yx _ _ _ 27 rfl (w.heap.size+2) 29 i0 (.agg #[.int .i64 0, .slice none 0 0, .slice none 0 0]) 3 underlying27 hi hz0 hz1 .i64 .i64 _ l.length rfl rfl rfl (by rw [hz2];omega) (by unfold maxLen;omega) (by have:=hbq.size;omega) ?_
     intro X3 hm hg
     have hx:=Ju (B:=X2.heap.size) hg (Fu _) (by intro k hk;cases hk)
     clear hg
     have dMA:∀g,Value.ownBlock (.slice (some ⟨X2.heap.size,0,none⟩) 0 l.length)=some g→Value.ownBlock (.slice Av b.length cv)≠some g:=fun g e1 e=> by
      have hk:X2.heap.size=g:=by simpa [Value.ownBlock] using e1
      have:=(hv.lt _ e).2;omega
     have hbq:=hbq.trans (hx.mono hbq.size)
     have hv:=Qb hv hx (Fu _)
     refine hK.out _ _ ?_ (fun hHeld=> ?_)
     ·(try dsimp only);exact ⟨Zc k0 hbq (by omega),Zc k1 hbq (by omega),Zc k2 hbq (by omega)⟩
     clear hK K
     try go_frame
     refine Za 10 (some 16) hHeld _ ?_;try go_frame
     refine Zh 11 (fun K hK=> ?_)
     (try go_simp)
     obtain ⟨X4,hY⟩:∃V,V=X3.alloc (.cells #[.int .i64 0, .slice none 0 0, .slice none 0 0] 29):=⟨_,rfl⟩
     rw [←hY]
     have hx:Below X3.heap.size X3 X4:=by rw [hY];exact (Fv _ _).alloc (Fu _) _
     have hbqO:=hbq.size
     have dA:Value.ownBlock (.slice Av b.length cv)≠some X3.heap.size:=fun e=> by have:=(hv.lt _ e).2;omega
     have dM:Value.ownBlock (.slice (some ⟨X2.heap.size,0,none⟩) 0 l.length)≠some X3.heap.size:=fun e=> by have:=(hm.lt _ e).2;omega
     have hbq:=hbq.trans (hx.mono hbq.size)
     have hv:=Qb hv hx (Fu _)
     have hm:=Qb hm hx (Fu _)
     have qh:X4.heap[X3.heap.size]?=some (.cells #[.int .i64 0, .slice none 0 0, .slice none 0 0] 29 (0,0)):=by rw [hY];exact Jz _ _
     have hoX:X3.heap.size < X4.heap.size:=by rw [hY];simp
     have hO:W0.heap.size≤X3.heap.size:=hbqO
     clear hY hbqO
     refine hK.out _ _ ?_ (fun hHeld=> ?_)
     ·(try dsimp only);exact ⟨Zc k0 hbq (by omega),Zc k1 hbq (by omega),Zc k2 hbq (by omega)⟩
     clear hK K
     try go_frame
     refine Zh 12 (fun K hK=> ?_)
     have c0:=cell_of_row _ _ 0 _ _ (0,0) qh
     have c1:=cell_of_row _ _ 1 _ _ (0,0) qh
     have c2:=cell_of_row _ _ 2 _ _ (0,0) qh
     simp at c0 c1 c2
     have f0:=frozen_of_row _ _ 0 _ _ qh
     have f1:=frozen_of_row _ _ 1 _ _ qh
     have f2:=frozen_of_row _ _ 2 _ _ qh
     have gr:=Fs ((((Qg.mk0 (o:=X3.heap.size) hv hm dA dM dMA).store (i:=0) (.int .i64 nn)).store (i:=1) (.slice Av b.length cv)).store (i:=2) ((.slice (some ⟨X2.heap.size,0,none⟩) 0 l.length)))
     have st:=Fs (Vk qh (.int .i64 nn) (.slice Av b.length cv) ((.slice (some ⟨X2.heap.size,0,none⟩) 0 l.length)))
     have bl:=Fs (((hbq.setCell (p:=⟨X3.heap.size,0,none⟩) hO (.int .i64 nn)).setCell (p:=⟨X3.heap.size,1,none⟩) hO (.slice Av b.length cv)).setCell (p:=⟨X3.heap.size,2,none⟩) hO ((.slice (some ⟨X2.heap.size,0,none⟩) 0 l.length)))
     go_simp
     clear c0 c1 c2 f0 f1 f2
     refine hK.out _ _ ?_ (fun hHeld=> ?_)
     ·(try dsimp only);exact ⟨Zc k0 bl.out (by omega),Zc k1 bl.out (by omega),Zc k2 bl.out (by omega)⟩
     clear hK K
     try go_frame
     refine wpAnyH_done (by kernel_rfl) ?_ _
     go_wp2_with fail
     go_meet
     exact ⟨_,_,_,_,_,rfl,st.out,gr.out,by omega,bl.out⟩
    ·(try go_simp)
     obtain ⟨X3,hY⟩:∃V,V=X2.alloc (.cells #[.int .i64 0, .slice none 0 0, .slice none 0 0] 29):=⟨_,rfl⟩
     rw [←hY]
     have hx:Below X2.heap.size X2 X3:=by rw [hY];exact (Fv _ _).alloc (Fu _) _
     have hbqO:=hbq.size
     have dA:Value.ownBlock (.slice Av b.length cv)≠some X2.heap.size:=fun e=> by have:=(hv.lt _ e).2;omega
     have hbq:=hbq.trans (hx.mono hbq.size)
     have hv:=Qb hv hx (Fu _)
     have qh:X3.heap[X2.heap.size]?=some (.cells #[.int .i64 0, .slice none 0 0, .slice none 0 0] 29 (0,0)):=by rw [hY];exact Jz _ _
     have hoX:X2.heap.size < X3.heap.size:=by rw [hY];simp
     have hO:W0.heap.size≤X2.heap.size:=hbqO
     clear hY hbqO
     refine hK.out _ _ ?_ (fun hHeld=> ?_)
     ·(try dsimp only);exact ⟨Zc k0 hbq (by omega),Zc k1 hbq (by omega),Zc k2 hbq (by omega)⟩
     clear hK K
     try go_frame
     refine Zh 9 (fun K hK=> ?_)
     refine Yx _ _ _ 27 rfl (w.heap.size+2) 29 i0 (.agg #[.int .i64 0, .slice none 0 0, .slice none 0 0]) 3 underlying27 hi hz0 hz1 .i64 .i64 _ l.length rfl rfl rfl (by rw [hz2];omega) (by unfold maxLen;omega) (by have:=hbq.size;omega) ?_
     intro X4 hm hg
     have hx:=Ju (B:=X3.heap.size) hg (Fu _) (by intro k hk;cases hk)
     clear hg
     have dM:Value.ownBlock (.slice (some ⟨X3.heap.size,0,none⟩) 0 l.length)≠some (X2.heap.size):=fun e=> by
      have hk:X3.heap.size=X2.heap.size:=by simpa [Value.ownBlock] using e
      omega
     have dMA:∀g,Value.ownBlock (.slice (some ⟨X3.heap.size,0,none⟩) 0 l.length)=some g→Value.ownBlock (.slice Av b.length cv)≠some g:=fun g e1 e=> by
      have hk:X3.heap.size=g:=by simpa [Value.ownBlock] using e1
      have:=(hv.lt _ e).2;omega
     have hbq:=hbq.trans (hx.mono hbq.size)
     have qh:=(hx.block _ hoX).trans qh
     have hoX:X2.heap.size < X4.heap.size:=Ea hoX hx.size
     have hv:=Qb hv hx (Fu _)
     refine hK.out _ _ ?_ (fun hHeld=> ?_)
     ·(try dsimp only);exact ⟨Zc k0 hbq (by omega),Zc k1 hbq (by omega),Zc k2 hbq (by omega)⟩
     clear hK K
     try go_frame
     refine Za 10 (some 16) hHeld _ ?_;try go_frame
     refine Zh 12 (fun K hK=> ?_)
     have c0:=cell_of_row _ _ 0 _ _ (0,0) qh
     have c1:=cell_of_row _ _ 1 _ _ (0,0) qh
     have c2:=cell_of_row _ _ 2 _ _ (0,0) qh
     simp at c0 c1 c2
     have f0:=frozen_of_row _ _ 0 _ _ qh
     have f1:=frozen_of_row _ _ 1 _ _ qh
     have f2:=frozen_of_row _ _ 2 _ _ qh
     have gr:=Fs ((((Qg.mk0 (o:=X2.heap.size) hv hm dA dM dMA).store (i:=0) (.int .i64 nn)).store (i:=1) (.slice Av b.length cv)).store (i:=2) ((.slice (some ⟨X3.heap.size,0,none⟩) 0 l.length)))
     have st:=Fs (Vk qh (.int .i64 nn) (.slice Av b.length cv) ((.slice (some ⟨X3.heap.size,0,none⟩) 0 l.length)))
     have bl:=Fs (((hbq.setCell (p:=⟨X2.heap.size,0,none⟩) hO (.int .i64 nn)).setCell (p:=⟨X2.heap.size,1,none⟩) hO (.slice Av b.length cv)).setCell (p:=⟨X2.heap.size,2,none⟩) hO ((.slice (some ⟨X3.heap.size,0,none⟩) 0 l.length)))
     go_simp
     clear c0 c1 c2 f0 f1 f2
     refine hK.out _ _ ?_ (fun hHeld=> ?_)
     ·(try dsimp only);exact ⟨Zc k0 bl.out (by omega),Zc k1 bl.out (by omega),Zc k2 bl.out (by omega)⟩
     clear hK K
     try go_frame
     refine wpAnyH_done (by kernel_rfl) ?_ _
     go_wp2_with fail
     go_meet
     exact ⟨_,_,_,_,_,rfl,st.out,gr.out,by omega,bl.out⟩
   ·refine Yx _ _ _ 27 rfl (w.heap.size+2) 29 i0 (.agg #[.int .i64 0, .slice none 0 0, .slice none 0 0]) 3 underlying27 hi hz0 hz1 .i64 .i64 _ l.length rfl rfl rfl (by rw [hz2];omega) (by unfold maxLen;omega) (by have:=hbq.size;omega) ?_
    intro X2 hm hg
    have hx:=Ju (B:=X1.heap.size) hg (Fu _) (by intro k hk;cases hk)
    clear hg
    have dEM:∀g,Value.ownBlock (.slice (some ⟨X1.heap.size,0,none⟩) 0 l.length)=some g→X0.heap.size=g→False:=fun g e1 e=> by
     have hk:X1.heap.size=g:=by simpa [Value.ownBlock] using e1
     have:=(he.lt (X0.heap.size) rfl).2;omega
    have hbq:=hbq.trans (hx.mono hbq.size)
    have he:=Qb he hx (Fu _)
    refine hK.out _ _ ?_ (fun hHeld=> ?_)
    ·(try dsimp only);exact ⟨Zc k0 hbq (by omega),Zc k1 hbq (by omega),Zc k2 hbq (by omega)⟩
    clear hK K
    try go_frame
    refine Rd 5 11 (fun K hK=> ?_) (fun K hK=> ?_)
    ·refine Je _ (.tmp 8) (.tmp 10) 22 rfl (w.heap.size+2) 5 i1 (.int .u8 0) 1 1 underlying22 hj hy0 hy1 hy2 rfl (by decide) _ 0 [] rfl (by exact he) B b.length _ (Uy b) rfl (by exact Sl.below HI.out.1 ((hbW.trans (hbq.mono (by omega))).mono hB)) (Xm _) (by omega) (by unfold maxLen;omega) (by have:=hbq.size;omega) ?_
     intro v1 X3 hv hg hvv
     simp only [Nat.zero_add,List.nil_append] at hv
     obtain ⟨Av,cv,rfl⟩:=Zq hv
     have hvv:Value.ownBlock (.slice Av b.length cv)=some (X0.heap.size)∨Value.ownBlock (.slice Av b.length cv)=some X2.heap.size:=hvv
     have hg:X2.grownBy X3 (some (X0.heap.size)):=hg
     have dMA:∀g,Value.ownBlock (.slice (some ⟨X1.heap.size,0,none⟩) 0 l.length)=some g→Value.ownBlock (.slice Av b.length cv)≠some g:=fun g e1 e=> by
      rcases hvv with h|h
      ·rw [h] at e;exact dEM _ e1 (Fz e)
      ·rw [h] at e;have:=Fz e;have:=(hm.lt _ e1).2;omega
     have hm:=hm.kept hg (by right;intro e;exact dEM _ e rfl)
     have hbq:=hbq.grown hg hbq.size (by intro k hk;have:=(he.lt (X0.heap.size) rfl).1;have:=Fz hk;omega)
     clear he hg hvv
     refine hK.out _ _ ?_ (fun hHeld=> ?_)
     ·(try dsimp only);exact ⟨Zc k0 hbq (by omega),Zc k1 hbq (by omega),Zc k2 hbq (by omega)⟩
     clear hK K
     try go_frame
     refine Za 10 (some 16) hHeld _ ?_;try go_frame
     refine Zh 11 (fun K hK=> ?_)
     (try go_simp)
     obtain ⟨X4,hY⟩:∃V,V=X3.alloc (.cells #[.int .i64 0, .slice none 0 0, .slice none 0 0] 29):=⟨_,rfl⟩
     rw [←hY]
     have hx:Below X3.heap.size X3 X4:=by rw [hY];exact (Fv _ _).alloc (Fu _) _
     have hbqO:=hbq.size
     have dA:Value.ownBlock (.slice Av b.length cv)≠some X3.heap.size:=fun e=> by have:=(hv.lt _ e).2;omega
     have dM:Value.ownBlock (.slice (some ⟨X1.heap.size,0,none⟩) 0 l.length)≠some X3.heap.size:=fun e=> by have:=(hm.lt _ e).2;omega
     have hbq:=hbq.trans (hx.mono hbq.size)
     have hv:=Qb hv hx (Fu _)
     have hm:=Qb hm hx (Fu _)
     have qh:X4.heap[X3.heap.size]?=some (.cells #[.int .i64 0, .slice none 0 0, .slice none 0 0] 29 (0,0)):=by rw [hY];exact Jz _ _
     have hoX:X3.heap.size < X4.heap.size:=by rw [hY];simp
     have hO:W0.heap.size≤X3.heap.size:=hbqO
     clear hY hbqO
     refine hK.out _ _ ?_ (fun hHeld=> ?_)
     ·(try dsimp only);exact ⟨Zc k0 hbq (by omega),Zc k1 hbq (by omega),Zc k2 hbq (by omega)⟩
     clear hK K
     try go_frame
     refine Zh 12 (fun K hK=> ?_)
     have c0:=cell_of_row _ _ 0 _ _ (0,0) qh
     have c1:=cell_of_row _ _ 1 _ _ (0,0) qh
     have c2:=cell_of_row _ _ 2 _ _ (0,0) qh
     simp at c0 c1 c2
     have f0:=frozen_of_row _ _ 0 _ _ qh
     have f1:=frozen_of_row _ _ 1 _ _ qh
     have f2:=frozen_of_row _ _ 2 _ _ qh
     have gr:=Fs ((((Qg.mk0 (o:=X3.heap.size) hv hm dA dM dMA).store (i:=0) (.int .i64 nn)).store (i:=1) (.slice Av b.length cv)).store (i:=2) ((.slice (some ⟨X1.heap.size,0,none⟩) 0 l.length)))
     have st:=Fs (Vk qh (.int .i64 nn) (.slice Av b.length cv) ((.slice (some ⟨X1.heap.size,0,none⟩) 0 l.length)))
     have bl:=Fs (((hbq.setCell (p:=⟨X3.heap.size,0,none⟩) hO (.int .i64 nn)).setCell (p:=⟨X3.heap.size,1,none⟩) hO (.slice Av b.length cv)).setCell (p:=⟨X3.heap.size,2,none⟩) hO ((.slice (some ⟨X1.heap.size,0,none⟩) 0 l.length)))
     go_simp
     clear c0 c1 c2 f0 f1 f2
     refine hK.out _ _ ?_ (fun hHeld=> ?_)
     ·(try dsimp only);exact ⟨Zc k0 bl.out (by omega),Zc k1 bl.out (by omega),Zc k2 bl.out (by omega)⟩
     clear hK K
     try go_frame
     refine wpAnyH_done (by kernel_rfl) ?_ _
     go_wp2_with fail
     go_meet
     exact ⟨_,_,_,_,_,rfl,st.out,gr.out,by omega,bl.out⟩
    ·(try go_simp)
     obtain ⟨X3,hY⟩:∃V,V=X2.alloc (.cells #[.int .i64 0, .slice none 0 0, .slice none 0 0] 29):=⟨_,rfl⟩
     rw [←hY]
     have hx:Below X2.heap.size X2 X3:=by rw [hY];exact (Fv _ _).alloc (Fu _) _
     have hbqO:=hbq.size
     have dE:X0.heap.size≠X2.heap.size:=by have:=(he.lt (X0.heap.size) rfl).2;omega
     have dM:Value.ownBlock (.slice (some ⟨X1.heap.size,0,none⟩) 0 l.length)≠some X2.heap.size:=fun e=> by have:=(hm.lt _ e).2;omega
     have hbq:=hbq.trans (hx.mono hbq.size)
     have he:=Qb he hx (Fu _)
     have hm:=Qb hm hx (Fu _)
     have qh:X3.heap[X2.heap.size]?=some (.cells #[.int .i64 0, .slice none 0 0, .slice none 0 0] 29 (0,0)):=by rw [hY];exact Jz _ _
     have hoX:X2.heap.size < X3.heap.size:=by rw [hY];simp
     have hO:W0.heap.size≤X2.heap.size:=hbqO
     clear hY hbqO
     refine hK.out _ _ ?_ (fun hHeld=> ?_)
     ·(try dsimp only);exact ⟨Zc k0 hbq (by omega),Zc k1 hbq (by omega),Zc k2 hbq (by omega)⟩
     clear hK K
     try go_frame
     refine Zh 5 (fun K hK=> ?_)
     refine Je _ (.tmp 8) (.tmp 10) 22 rfl (w.heap.size+2) 5 i1 (.int .u8 0) 1 1 underlying22 hj hy0 hy1 hy2 rfl (by decide) _ 0 [] rfl (by exact he) B b.length _ (Uy b) rfl (by exact Sl.below HI.out.1 ((hbW.trans (hbq.mono (by omega))).mono hB)) (Xm _) (by omega) (by unfold maxLen;omega) (by have:=hbq.size;omega) ?_
     intro v1 X4 hv hg hvv
     simp only [Nat.zero_add,List.nil_append] at hv
     obtain ⟨Av,cv,rfl⟩:=Zq hv
     have hvv:Value.ownBlock (.slice Av b.length cv)=some (X0.heap.size)∨Value.ownBlock (.slice Av b.length cv)=some X3.heap.size:=hvv
     have hg:X3.grownBy X4 (some (X0.heap.size)):=hg
     have dA:Value.ownBlock (.slice Av b.length cv)≠some (X2.heap.size):=fun e=> by
      rcases hvv with h|h
      ·rw [h] at e;exact dE (Fz e)
      ·rw [h] at e;have:=Fz e;omega
     have qh:=(hg.block _ hoX (fun e=> dE (Fz e).symm)).trans qh
     have hoX:X2.heap.size < X4.heap.size:=Ea hoX hg.size
     have dMA:∀g,Value.ownBlock (.slice (some ⟨X1.heap.size,0,none⟩) 0 l.length)=some g→Value.ownBlock (.slice Av b.length cv)≠some g:=fun g e1 e=> by
      rcases hvv with h|h
      ·rw [h] at e;exact dEM _ e1 (Fz e)
      ·rw [h] at e;have:=Fz e;have:=(hm.lt _ e1).2;omega
     have hm:=hm.kept hg (by right;intro e;exact dEM _ e rfl)
     have hbq:=hbq.grown hg hbq.size (by intro k hk;have:=(he.lt (X0.heap.size) rfl).1;have:=Fz hk;omega)
     clear he hg hvv
     refine hK.out _ _ ?_ (fun hHeld=> ?_)
     ·(try dsimp only);exact ⟨Zc k0 hbq (by omega),Zc k1 hbq (by omega),Zc k2 hbq (by omega)⟩
     clear hK K
     try go_frame
     refine Za 10 (some 16) hHeld _ ?_;try go_frame
     refine Zh 12 (fun K hK=> ?_)
     have c0:=cell_of_row _ _ 0 _ _ (0,0) qh
     have c1:=cell_of_row _ _ 1 _ _ (0,0) qh
     have c2:=cell_of_row _ _ 2 _ _ (0,0) qh
     simp at c0 c1 c2
     have f0:=frozen_of_row _ _ 0 _ _ qh
     have f1:=frozen_of_row _ _ 1 _ _ qh
     have f2:=frozen_of_row _ _ 2 _ _ qh
     have gr:=Fs ((((Qg.mk0 (o:=X2.heap.size) hv hm dA dM dMA).store (i:=0) (.int .i64 nn)).store (i:=1) (.slice Av b.length cv)).store (i:=2) ((.slice (some ⟨X1.heap.size,0,none⟩) 0 l.length)))
     have st:=Fs (Vk qh (.int .i64 nn) (.slice Av b.length cv) ((.slice (some ⟨X1.heap.size,0,none⟩) 0 l.length)))
     have bl:=Fs (((hbq.setCell (p:=⟨X2.heap.size,0,none⟩) hO (.int .i64 nn)).setCell (p:=⟨X2.heap.size,1,none⟩) hO (.slice Av b.length cv)).setCell (p:=⟨X2.heap.size,2,none⟩) hO ((.slice (some ⟨X1.heap.size,0,none⟩) 0 l.length)))
     go_simp
     clear c0 c1 c2 f0 f1 f2
     refine hK.out _ _ ?_ (fun hHeld=> ?_)
     ·(try dsimp only);exact ⟨Zc k0 bl.out (by omega),Zc k1 bl.out (by omega),Zc k2 bl.out (by omega)⟩
     clear hK K
     try go_frame
     refine wpAnyH_done (by kernel_rfl) ?_ _
     go_wp2_with fail
     go_meet
     exact ⟨_,_,_,_,_,rfl,st.out,gr.out,by omega,bl.out⟩
   ·(try go_simp)
    obtain ⟨X2,hY⟩:∃V,V=X1.alloc (.cells #[.int .i64 0, .slice none 0 0, .slice none 0 0] 29):=⟨_,rfl⟩
    rw [←hY]
    have hx:Below X1.heap.size X1 X2:=by rw [hY];exact (Fv _ _).alloc (Fu _) _
    have hbqO:=hbq.size
    have dE:X0.heap.size≠X1.heap.size:=by have:=(he.lt (X0.heap.size) rfl).2;omega
    have hbq:=hbq.trans (hx.mono hbq.size)
    have he:=Qb he hx (Fu _)
    have qh:X2.heap[X1.heap.size]?=some (.cells #[.int .i64 0, .slice none 0 0, .slice none 0 0] 29 (0,0)):=by rw [hY];exact Jz _ _
    have hoX:X1.heap.size < X2.heap.size:=by rw [hY];simp
    have hO:W0.heap.size≤X1.heap.size:=hbqO
    clear hY hbqO
    refine hK.out _ _ ?_ (fun hHeld=> ?_)
    ·(try dsimp only);exact ⟨Zc k0 hbq (by omega),Zc k1 hbq (by omega),Zc k2 hbq (by omega)⟩
    clear hK K
    try go_frame
    refine Rd 5 9 (fun K hK=> ?_) (fun K hK=> ?_)
    ·refine Je _ (.tmp 8) (.tmp 10) 22 rfl (w.heap.size+2) 5 i1 (.int .u8 0) 1 1 underlying22 hj hy0 hy1 hy2 rfl (by decide) _ 0 [] rfl (by exact he) B b.length _ (Uy b) rfl (by exact Sl.below HI.out.1 ((hbW.trans (hbq.mono (by omega))).mono hB)) (Xm _) (by omega) (by unfold maxLen;omega) (by have:=hbq.size;omega) ?_
     intro v1 X3 hv hg hvv
     simp only [Nat.zero_add,List.nil_append] at hv
     obtain ⟨Av,cv,rfl⟩:=Zq hv
     have hvv:Value.ownBlock (.slice Av b.length cv)=some (X0.heap.size)∨Value.ownBlock (.slice Av b.length cv)=some X2.heap.size:=hvv
     have hg:X2.grownBy X3 (some (X0.heap.size)):=hg
     have dA:Value.ownBlock (.slice Av b.length cv)≠some (X1.heap.size):=fun e=> by
      rcases hvv with h|h
      ·rw [h] at e;exact dE (Fz e)
      ·rw [h] at e;have:=Fz e;omega
     have qh:=(hg.block _ hoX (fun e=> dE (Fz e).symm)).trans qh
     have hoX:X1.heap.size < X3.heap.size:=Ea hoX hg.size
     have hbq:=hbq.grown hg hbq.size (by intro k hk;have:=(he.lt (X0.heap.size) rfl).1;have:=Fz hk;omega)
     clear he hg hvv
     refine hK.out _ _ ?_ (fun hHeld=> ?_)
     ·(try dsimp only);exact ⟨Zc k0 hbq (by omega),Zc k1 hbq (by omega),Zc k2 hbq (by omega)⟩
     clear hK K
     try go_frame
     refine Zh 9 (fun K hK=> ?_)
     refine Yx _ _ _ 27 rfl (w.heap.size+2) 29 i0 (.agg #[.int .i64 0, .slice none 0 0, .slice none 0 0]) 3 underlying27 hi hz0 hz1 .i64 .i64 _ l.length rfl rfl rfl (by rw [hz2];omega) (by unfold maxLen;omega) (by have:=hbq.size;omega) ?_
     intro X4 hm hg
     have hx:=Ju (B:=X3.heap.size) hg (Fu _) (by intro k hk;cases hk)
     clear hg
     have dM:Value.ownBlock (.slice (some ⟨X3.heap.size,0,none⟩) 0 l.length)≠some (X1.heap.size):=fun e=> by
      have hk:X3.heap.size=X1.heap.size:=by simpa [Value.ownBlock] using e
      omega
     have dMA:∀g,Value.ownBlock (.slice (some ⟨X3.heap.size,0,none⟩) 0 l.length)=some g→Value.ownBlock (.slice Av b.length cv)≠some g:=fun g e1 e=> by
      have hk:X3.heap.size=g:=by simpa [Value.ownBlock] using e1
      have:=(hv.lt _ e).2;omega
     have hbq:=hbq.trans (hx.mono hbq.size)
     have qh:=(hx.block _ hoX).trans qh
     have hoX:X1.heap.size < X4.heap.size:=Ea hoX hx.size
     have hv:=Qb hv hx (Fu _)
     refine hK.out _ _ ?_ (fun hHeld=> ?_)
     ·(try dsimp only);exact ⟨Zc k0 hbq (by omega),Zc k1 hbq (by omega),Zc k2 hbq (by omega)⟩
     clear hK K
     try go_frame
     refine Za 10 (some 16) hHeld _ ?_;try go_frame
     refine Zh 12 (fun K hK=> ?_)
     have c0:=cell_of_row _ _ 0 _ _ (0,0) qh
     have c1:=cell_of_row _ _ 1 _ _ (0,0) qh
     have c2:=cell_of_row _ _ 2 _ _ (0,0) qh
     simp at c0 c1 c2
     have f0:=frozen_of_row _ _ 0 _ _ qh
     have f1:=frozen_of_row _ _ 1 _ _ qh
     have f2:=frozen_of_row _ _ 2 _ _ qh
     have gr:=Fs ((((Qg.mk0 (o:=X1.heap.size) hv hm dA dM dMA).store (i:=0) (.int .i64 nn)).store (i:=1) (.slice Av b.length cv)).store (i:=2) ((.slice (some ⟨X3.heap.size,0,none⟩) 0 l.length)))
     have st:=Fs (Vk qh (.int .i64 nn) (.slice Av b.length cv) ((.slice (some ⟨X3.heap.size,0,none⟩) 0 l.length)))
     have bl:=Fs (((hbq.setCell (p:=⟨X1.heap.size,0,none⟩) hO (.int .i64 nn)).setCell (p:=⟨X1.heap.size,1,none⟩) hO (.slice Av b.length cv)).setCell (p:=⟨X1.heap.size,2,none⟩) hO ((.slice (some ⟨X3.heap.size,0,none⟩) 0 l.length)))
     go_simp
     clear c0 c1 c2 f0 f1 f2
     refine hK.out _ _ ?_ (fun hHeld=> ?_)
     ·(try dsimp only);exact ⟨Zc k0 bl.out (by omega),Zc k1 bl.out (by omega),Zc k2 bl.out (by omega)⟩
     clear hK K
     try go_frame
     refine wpAnyH_done (by kernel_rfl) ?_ _
     go_wp2_with fail
     go_meet
     exact ⟨_,_,_,_,_,rfl,st.out,gr.out,by omega,bl.out⟩
    ·refine Yx _ _ _ 27 rfl (w.heap.size+2) 29 i0 (.agg #[.int .i64 0, .slice none 0 0, .slice none 0 0]) 3 underlying27 hi hz0 hz1 .i64 .i64 _ l.length rfl rfl rfl (by rw [hz2];omega) (by unfold maxLen;omega) (by have:=hbq.size;omega) ?_
     intro X3 hm hg
     have hx:=Ju (B:=X2.heap.size) hg (Fu _) (by intro k hk;cases hk)
     clear hg
     have dM:Value.ownBlock (.slice (some ⟨X2.heap.size,0,none⟩) 0 l.length)≠some (X1.heap.size):=fun e=> by
      have hk:X2.heap.size=X1.heap.size:=by simpa [Value.ownBlock] using e
      omega
     have dEM:∀g,Value.ownBlock (.slice (some ⟨X2.heap.size,0,none⟩) 0 l.length)=some g→X0.heap.size=g→False:=fun g e1 e=> by
      have hk:X2.heap.size=g:=by simpa [Value.ownBlock] using e1
      have:=(he.lt (X0.heap.size) rfl).2;omega
     have hbq:=hbq.trans (hx.mono hbq.size)
     have qh:=(hx.block _ hoX).trans qh
     have hoX:X1.heap.size < X3.heap.size:=Ea hoX hx.size
     have he:=Qb he hx (Fu _)
     refine hK.out _ _ ?_ (fun hHeld=> ?_)
     ·(try dsimp only);exact ⟨Zc k0 hbq (by omega),Zc k1 hbq (by omega),Zc k2 hbq (by omega)⟩
     clear hK K
     try go_frame
     refine Zh 5 (fun K hK=> ?_)
     refine Je _ (.tmp 8) (.tmp 10) 22 rfl (w.heap.size+2) 5 i1 (.int .u8 0) 1 1 underlying22 hj hy0 hy1 hy2 rfl (by decide) _ 0 [] rfl (by exact he) B b.length _ (Uy b) rfl (by exact Sl.below HI.out.1 ((hbW.trans (hbq.mono (by omega))).mono hB)) (Xm _) (by omega) (by unfold maxLen;omega) (by have:=hbq.size;omega) ?_
     intro v1 X4 hv hg hvv
     simp only [Nat.zero_add,List.nil_append] at hv
     obtain ⟨Av,cv,rfl⟩:=Zq hv
     have hvv:Value.ownBlock (.slice Av b.length cv)=some (X0.heap.size)∨Value.ownBlock (.slice Av b.length cv)=some X3.heap.size:=hvv
     have hg:X3.grownBy X4 (some (X0.heap.size)):=hg
     have dA:Value.ownBlock (.slice Av b.length cv)≠some (X1.heap.size):=fun e=> by
      rcases hvv with h|h
      ·rw [h] at e;exact dE (Fz e)
      ·rw [h] at e;have:=Fz e;omega
     have qh:=(hg.block _ hoX (fun e=> dE (Fz e).symm)).trans qh
     have hoX:X1.heap.size < X4.heap.size:=Ea hoX hg.size
     have dMA:∀g,Value.ownBlock (.slice (some ⟨X2.heap.size,0,none⟩) 0 l.length)=some g→Value.ownBlock (.slice Av b.length cv)≠some g:=fun g e1 e=> by
      rcases hvv with h|h
      ·rw [h] at e;exact dEM _ e1 (Fz e)
      ·rw [h] at e;have:=Fz e;have:=(hm.lt _ e1).2;omega
     have hm:=hm.kept hg (by right;intro e;exact dEM _ e rfl)
     have hbq:=hbq.grown hg hbq.size (by intro k hk;have:=(he.lt (X0.heap.size) rfl).1;have:=Fz hk;omega)
     clear he hg hvv
     refine hK.out _ _ ?_ (fun hHeld=> ?_)
     ·(try dsimp only);exact ⟨Zc k0 hbq (by omega),Zc k1 hbq (by omega),Zc k2 hbq (by omega)⟩
     clear hK K
     try go_frame
     refine Za 10 (some 16) hHeld _ ?_;try go_frame
     refine Zh 12 (fun K hK=> ?_)
     have c0:=cell_of_row _ _ 0 _ _ (0,0) qh
     have c1:=cell_of_row _ _ 1 _ _ (0,0) qh
     have c2:=cell_of_row _ _ 2 _ _ (0,0) qh
     simp at c0 c1 c2
     have f0:=frozen_of_row _ _ 0 _ _ qh
     have f1:=frozen_of_row _ _ 1 _ _ qh
     have f2:=frozen_of_row _ _ 2 _ _ qh
     have gr:=Fs ((((Qg.mk0 (o:=X1.heap.size) hv hm dA dM dMA).store (i:=0) (.int .i64 nn)).store (i:=1) (.slice Av b.length cv)).store (i:=2) ((.slice (some ⟨X2.heap.size,0,none⟩) 0 l.length)))
     have st:=Fs (Vk qh (.int .i64 nn) (.slice Av b.length cv) ((.slice (some ⟨X2.heap.size,0,none⟩) 0 l.length)))
     have bl:=Fs (((hbq.setCell (p:=⟨X1.heap.size,0,none⟩) hO (.int .i64 nn)).setCell (p:=⟨X1.heap.size,1,none⟩) hO (.slice Av b.length cv)).setCell (p:=⟨X1.heap.size,2,none⟩) hO ((.slice (some ⟨X2.heap.size,0,none⟩) 0 l.length)))
     go_simp
     clear c0 c1 c2 f0 f1 f2
     refine hK.out _ _ ?_ (fun hHeld=> ?_)
     ·(try dsimp only);exact ⟨Zc k0 bl.out (by omega),Zc k1 bl.out (by omega),Zc k2 bl.out (by omega)⟩
     clear hK K
     try go_frame
     refine wpAnyH_done (by kernel_rfl) ?_ _
     go_wp2_with fail
     go_meet
     exact ⟨_,_,_,_,_,rfl,st.out,gr.out,by omega,bl.out⟩
  ·refine Yx _ _ _ 27 rfl (w.heap.size+2) 29 i0 (.agg #[.int .i64 0, .slice none 0 0, .slice none 0 0]) 3 underlying27 hi hz0 hz1 .i64 .i64 _ l.length rfl rfl rfl (by rw [hz2];omega) (by unfold maxLen;omega) (by have:=hbq.size;omega) ?_
   intro X1 hm hg
   have hx:=Ju (B:=X0.heap.size) hg (Fu _) (by intro k hk;cases hk)
   clear hg
   have hbq:=hbq.trans (hx.mono hbq.size)
   refine hK.out _ _ ?_ (fun hHeld=> ?_)
   ·(try dsimp only);exact ⟨Zc k0 hbq (by omega),Zc k1 hbq (by omega),Zc k2 hbq (by omega)⟩
   clear hK K
   try go_frame
   refine Rd 2 11 (fun K hK=> ?_) (fun K hK=> ?_)
   ·(try go_simp)
    obtain ⟨X2,hY⟩:∃V,V=X1.alloc (.cells #[] 5):=⟨_,rfl⟩
    rw [←hY]
    have hx:Below X1.heap.size X1 X2:=by rw [hY];exact (Fv _ _).alloc (Fu _) _
    have dEM:∀g,Value.ownBlock (.slice (some ⟨X0.heap.size,0,none⟩) 0 l.length)=some g→X1.heap.size=g→False:=fun g e1 e=> by have:=(hm.lt _ e1).2;omega
    have hbqE:=hbq.size
    have hbq:=hbq.trans (hx.mono hbq.size)
    have hm:=Qb hm hx (Fu _)
    have he:X2.ownsRow (w.heap.size+2) 5 1 (.slice (some ⟨X1.heap.size,0,none⟩) 0 0) 0 []:=by rw [hY];exact Ji rfl (by omega)
    clear hY hbqE
    refine hK.out _ _ ?_ (fun hHeld=> ?_)
    ·(try dsimp only);exact ⟨Zc k0 hbq (by omega),Zc k1 hbq (by omega),Zc k2 hbq (by omega)⟩
    clear hK K
    try go_frame
    refine Rd 5 11 (fun K hK=> ?_) (fun K hK=> ?_)
    ·refine Je _ (.tmp 8) (.tmp 10) 22 rfl (w.heap.size+2) 5 i1 (.int .u8 0) 1 1 underlying22 hj hy0 hy1 hy2 rfl (by decide) _ 0 [] rfl (by exact he) B b.length _ (Uy b) rfl (by exact Sl.below HI.out.1 ((hbW.trans (hbq.mono (by omega))).mono hB)) (Xm _) (by omega) (by unfold maxLen;omega) (by have:=hbq.size;omega) ?_
     intro v1 X3 hv hg hvv
     simp only [Nat.zero_add,List.nil_append] at hv
     obtain ⟨Av,cv,rfl⟩:=Zq hv
     have hvv:Value.ownBlock (.slice Av b.length cv)=some (X1.heap.size)∨Value.ownBlock (.slice Av b.length cv)=some X2.heap.size:=hvv
     have hg:X2.grownBy X3 (some (X1.heap.size)):=hg
     have dMA:∀g,Value.ownBlock (.slice (some ⟨X0.heap.size,0,none⟩) 0 l.length)=some g→Value.ownBlock (.slice Av b.length cv)≠some g:=fun g e1 e=> by
      rcases hvv with h|h
      ·rw [h] at e;exact dEM _ e1 (Fz e)
      ·rw [h] at e;have:=Fz e;have:=(hm.lt _ e1).2;omega
     have hm:=hm.kept hg (by right;intro e;exact dEM _ e rfl)
     have hbq:=hbq.grown hg hbq.size (by intro k hk;have:=(he.lt (X1.heap.size) rfl).1;have:=Fz hk;omega)
     clear he hg hvv
     refine hK.out _ _ ?_ (fun hHeld=> ?_)
     ·(try dsimp only);exact ⟨Zc k0 hbq (by omega),Zc k1 hbq (by omega),Zc k2 hbq (by omega)⟩
     clear hK K
     try go_frame
     refine Za 10 (some 16) hHeld _ ?_;try go_frame
     refine Zh 11 (fun K hK=> ?_)
     (try go_simp)
     obtain ⟨X4,hY⟩:∃V,V=X3.alloc (.cells #[.int .i64 0, .slice none 0 0, .slice none 0 0] 29):=⟨_,rfl⟩
     rw [←hY]
     have hx:Below X3.heap.size X3 X4:=by rw [hY];exact (Fv _ _).alloc (Fu _) _
     have hbqO:=hbq.size
     have dA:Value.ownBlock (.slice Av b.length cv)≠some X3.heap.size:=fun e=> by have:=(hv.lt _ e).2;omega
     have dM:Value.ownBlock (.slice (some ⟨X0.heap.size,0,none⟩) 0 l.length)≠some X3.heap.size:=fun e=> by have:=(hm.lt _ e).2;omega
     have hbq:=hbq.trans (hx.mono hbq.size)
     have hv:=Qb hv hx (Fu _)
     have hm:=Qb hm hx (Fu _)
     have qh:X4.heap[X3.heap.size]?=some (.cells #[.int .i64 0, .slice none 0 0, .slice none 0 0] 29 (0,0)):=by rw [hY];exact Jz _ _
     have hoX:X3.heap.size < X4.heap.size:=by rw [hY];simp
     have hO:W0.heap.size≤X3.heap.size:=hbqO
     clear hY hbqO
     refine hK.out _ _ ?_ (fun hHeld=> ?_)
     ·(try dsimp only);exact ⟨Zc k0 hbq (by omega),Zc k1 hbq (by omega),Zc k2 hbq (by omega)⟩
     clear hK K
     try go_frame
     refine Zh 12 (fun K hK=> ?_)
     have c0:=cell_of_row _ _ 0 _ _ (0,0) qh
     have c1:=cell_of_row _ _ 1 _ _ (0,0) qh
     have c2:=cell_of_row _ _ 2 _ _ (0,0) qh
     simp at c0 c1 c2
     have f0:=frozen_of_row _ _ 0 _ _ qh
     have f1:=frozen_of_row _ _ 1 _ _ qh
     have f2:=frozen_of_row _ _ 2 _ _ qh
     have gr:=Fs ((((Qg.mk0 (o:=X3.heap.size) hv hm dA dM dMA).store (i:=0) (.int .i64 nn)).store (i:=1) (.slice Av b.length cv)).store (i:=2) ((.slice (some ⟨X0.heap.size,0,none⟩) 0 l.length)))
     have st:=Fs (Vk qh (.int .i64 nn) (.slice Av b.length cv) ((.slice (some ⟨X0.heap.size,0,none⟩) 0 l.length)))
     have bl:=Fs (((hbq.setCell (p:=⟨X3.heap.size,0,none⟩) hO (.int .i64 nn)).setCell (p:=⟨X3.heap.size,1,none⟩) hO (.slice Av b.length cv)).setCell (p:=⟨X3.heap.size,2,none⟩) hO ((.slice (some ⟨X0.heap.size,0,none⟩) 0 l.length)))
     go_simp
     clear c0 c1 c2 f0 f1 f2
     refine hK.out _ _ ?_ (fun hHeld=> ?_)
     ·(try dsimp only);exact ⟨Zc k0 bl.out (by omega),Zc k1 bl.out (by omega),Zc k2 bl.out (by omega)⟩
     clear hK K
     try go_frame
     refine wpAnyH_done (by kernel_rfl) ?_ _
     go_wp2_with fail
     go_meet
     exact ⟨_,_,_,_,_,rfl,st.out,gr.out,by omega,bl.out⟩
    ·(try go_simp)
     obtain ⟨X3,hY⟩:∃V,V=X2.alloc (.cells #[.int .i64 0, .slice none 0 0, .slice none 0 0] 29):=⟨_,rfl⟩
     rw [←hY]
     have hx:Below X2.heap.size X2 X3:=by rw [hY];exact (Fv _ _).alloc (Fu _) _
     have hbqO:=hbq.size
     have dE:X1.heap.size≠X2.heap.size:=by have:=(he.lt (X1.heap.size) rfl).2;omega
     have dM:Value.ownBlock (.slice (some ⟨X0.heap.size,0,none⟩) 0 l.length)≠some X2.heap.size:=fun e=> by have:=(hm.lt _ e).2;omega
     have hbq:=hbq.trans (hx.mono hbq.size)
     have he:=Qb he hx (Fu _)
     have hm:=Qb hm hx (Fu _)
     have qh:X3.heap[X2.heap.size]?=some (.cells #[.int .i64 0, .slice none 0 0, .slice none 0 0] 29 (0,0)):=by rw [hY];exact Jz _ _
     have hoX:X2.heap.size < X3.heap.size:=by rw [hY];simp
     have hO:W0.heap.size≤X2.heap.size:=hbqO
     clear hY hbqO
     refine hK.out _ _ ?_ (fun hHeld=> ?_)
     ·(try dsimp only);exact ⟨Zc k0 hbq (by omega),Zc k1 hbq (by omega),Zc k2 hbq (by omega)⟩
     clear hK K
     try go_frame
     refine Zh 5 (fun K hK=> ?_)
     refine Je _ (.tmp 8) (.tmp 10) 22 rfl (w.heap.size+2) 5 i1 (.int .u8 0) 1 1 underlying22 hj hy0 hy1 hy2 rfl (by decide) _ 0 [] rfl (by exact he) B b.length _ (Uy b) rfl (by exact Sl.below HI.out.1 ((hbW.trans (hbq.mono (by omega))).mono hB)) (Xm _) (by omega) (by unfold maxLen;omega) (by have:=hbq.size;omega) ?_
     intro v1 X4 hv hg hvv
     simp only [Nat.zero_add,List.nil_append] at hv
     obtain ⟨Av,cv,rfl⟩:=Zq hv
     have hvv:Value.ownBlock (.slice Av b.length cv)=some (X1.heap.size)∨Value.ownBlock (.slice Av b.length cv)=some X3.heap.size:=hvv
     have hg:X3.grownBy X4 (some (X1.heap.size)):=hg
     have dA:Value.ownBlock (.slice Av b.length cv)≠some (X2.heap.size):=fun e=> by
      rcases hvv with h|h
      ·rw [h] at e;exact dE (Fz e)
      ·rw [h] at e;have:=Fz e;omega
     have qh:=(hg.block _ hoX (fun e=> dE (Fz e).symm)).trans qh
     have hoX:X2.heap.size < X4.heap.size:=Ea hoX hg.size
     have dMA:∀g,Value.ownBlock (.slice (some ⟨X0.heap.size,0,none⟩) 0 l.length)=some g→Value.ownBlock (.slice Av b.length cv)≠some g:=fun g e1 e=> by
      rcases hvv with h|h
      ·rw [h] at e;exact dEM _ e1 (Fz e)
      ·rw [h] at e;have:=Fz e;have:=(hm.lt _ e1).2;omega
     have hm:=hm.kept hg (by right;intro e;exact dEM _ e rfl)
     have hbq:=hbq.grown hg hbq.size (by intro k hk;have:=(he.lt (X1.heap.size) rfl).1;have:=Fz hk;omega)
     clear he hg hvv
     refine hK.out _ _ ?_ (fun hHeld=> ?_)
     ·(try dsimp only);exact ⟨Zc k0 hbq (by omega),Zc k1 hbq (by omega),Zc k2 hbq (by omega)⟩
     clear hK K
     try go_frame
     refine Za 10 (some 16) hHeld _ ?_;try go_frame
     refine Zh 12 (fun K hK=> ?_)
     have c0:=cell_of_row _ _ 0 _ _ (0,0) qh
     have c1:=cell_of_row _ _ 1 _ _ (0,0) qh
     have c2:=cell_of_row _ _ 2 _ _ (0,0) qh
     simp at c0 c1 c2
     have f0:=frozen_of_row _ _ 0 _ _ qh
     have f1:=frozen_of_row _ _ 1 _ _ qh
     have f2:=frozen_of_row _ _ 2 _ _ qh
     have gr:=Fs ((((Qg.mk0 (o:=X2.heap.size) hv hm dA dM dMA).store (i:=0) (.int .i64 nn)).store (i:=1) (.slice Av b.length cv)).store (i:=2) ((.slice (some ⟨X0.heap.size,0,none⟩) 0 l.length)))
     have st:=Fs (Vk qh (.int .i64 nn) (.slice Av b.length cv) ((.slice (some ⟨X0.heap.size,0,none⟩) 0 l.length)))
     have bl:=Fs (((hbq.setCell (p:=⟨X2.heap.size,0,none⟩) hO (.int .i64 nn)).setCell (p:=⟨X2.heap.size,1,none⟩) hO (.slice Av b.length cv)).setCell (p:=⟨X2.heap.size,2,none⟩) hO ((.slice (some ⟨X0.heap.size,0,none⟩) 0 l.length)))
     go_simp
     clear c0 c1 c2 f0 f1 f2
     refine hK.out _ _ ?_ (fun hHeld=> ?_)
     ·(try dsimp only);exact ⟨Zc k0 bl.out (by omega),Zc k1 bl.out (by omega),Zc k2 bl.out (by omega)⟩
     clear hK K
     try go_frame
     refine wpAnyH_done (by kernel_rfl) ?_ _
     go_wp2_with fail
     go_meet
     exact ⟨_,_,_,_,_,rfl,st.out,gr.out,by omega,bl.out⟩
   ·(try go_simp)
    obtain ⟨X2,hY⟩:∃V,V=X1.alloc (.cells #[.int .i64 0, .slice none 0 0, .slice none 0 0] 29):=⟨_,rfl⟩
    rw [←hY]
    have hx:Below X1.heap.size X1 X2:=by rw [hY];exact (Fv _ _).alloc (Fu _) _
    have hbqO:=hbq.size
    have dM:Value.ownBlock (.slice (some ⟨X0.heap.size,0,none⟩) 0 l.length)≠some X1.heap.size:=fun e=> by have:=(hm.lt _ e).2;omega
    have hbq:=hbq.trans (hx.mono hbq.size)
    have hm:=Qb hm hx (Fu _)
    have qh:X2.heap[X1.heap.size]?=some (.cells #[.int .i64 0, .slice none 0 0, .slice none 0 0] 29 (0,0)):=by rw [hY];exact Jz _ _
    have hoX:X1.heap.size < X2.heap.size:=by rw [hY];simp
    have hO:W0.heap.size≤X1.heap.size:=hbqO
    clear hY hbqO
    refine hK.out _ _ ?_ (fun hHeld=> ?_)
    ·(try dsimp only);exact ⟨Zc k0 hbq (by omega),Zc k1 hbq (by omega),Zc k2 hbq (by omega)⟩
    clear hK K
    try go_frame
    refine Zh 2 (fun K hK=> ?_)
    (try go_simp)
    obtain ⟨X3,hY⟩:∃V,V=X2.alloc (.cells #[] 5):=⟨_,rfl⟩
    rw [←hY]
    have hx:Below X2.heap.size X2 X3:=by rw [hY];exact (Fv _ _).alloc (Fu _) _
    have dE:X2.heap.size≠X1.heap.size:=by omega
    have dEM:∀g,Value.ownBlock (.slice (some ⟨X0.heap.size,0,none⟩) 0 l.length)=some g→X2.heap.size=g→False:=fun g e1 e=> by have:=(hm.lt _ e1).2;omega
    have hbqE:=hbq.size
    have hbq:=hbq.trans (hx.mono hbq.size)
    have qh:=(hx.block _ hoX).trans qh
    have hoX:X1.heap.size < X3.heap.size:=Ea hoX hx.size
    have hm:=Qb hm hx (Fu _)
    have he:X3.ownsRow (w.heap.size+2) 5 1 (.slice (some ⟨X2.heap.size,0,none⟩) 0 0) 0 []:=by rw [hY];exact Ji rfl (by omega)
    clear hY hbqE
    refine hK.out _ _ ?_ (fun hHeld=> ?_)
    ·(try dsimp only);exact ⟨Zc k0 hbq (by omega),Zc k1 hbq (by omega),Zc k2 hbq (by omega)⟩
    clear hK K
    try go_frame
    refine Zh 5 (fun K hK=> ?_)
    refine Je _ (.tmp 8) (.tmp 10) 22 rfl (w.heap.size+2) 5 i1 (.int .u8 0) 1 1 underlying22 hj hy0 hy1 hy2 rfl (by decide) _ 0 [] rfl (by exact he) B b.length _ (Uy b) rfl (by exact Sl.below HI.out.1 ((hbW.trans (hbq.mono (by omega))).mono hB)) (Xm _) (by omega) (by unfold maxLen;omega) (by have:=hbq.size;omega) ?_
    intro v1 X4 hv hg hvv
    simp only [Nat.zero_add,List.nil_append] at hv
    obtain ⟨Av,cv,rfl⟩:=Zq hv
    have hvv:Value.ownBlock (.slice Av b.length cv)=some (X2.heap.size)∨Value.ownBlock (.slice Av b.length cv)=some X3.heap.size:=hvv
    have hg:X3.grownBy X4 (some (X2.heap.size)):=hg
    have dA:Value.ownBlock (.slice Av b.length cv)≠some (X1.heap.size):=fun e=> by
     rcases hvv with h|h
     ·rw [h] at e;exact dE (Fz e)
     ·rw [h] at e;have:=Fz e;omega
    have qh:=(hg.block _ hoX (fun e=> dE (Fz e).symm)).trans qh
    have hoX:X1.heap.size < X4.heap.size:=Ea hoX hg.size
    have dMA:∀g,Value.ownBlock (.slice (some ⟨X0.heap.size,0,none⟩) 0 l.length)=some g→Value.ownBlock (.slice Av b.length cv)≠some g:=fun g e1 e=> by
     rcases hvv with h|h
     ·rw [h] at e;exact dEM _ e1 (Fz e)
     ·rw [h] at e;have:=Fz e;have:=(hm.lt _ e1).2;omega
    have hm:=hm.kept hg (by right;intro e;exact dEM _ e rfl)
    have hbq:=hbq.grown hg hbq.size (by intro k hk;have:=(he.lt (X2.heap.size) rfl).1;have:=Fz hk;omega)
    clear he hg hvv
    refine hK.out _ _ ?_ (fun hHeld=> ?_)
    ·(try dsimp only);exact ⟨Zc k0 hbq (by omega),Zc k1 hbq (by omega),Zc k2 hbq (by omega)⟩
    clear hK K
    try go_frame
    refine Za 10 (some 16) hHeld _ ?_;try go_frame
    refine Zh 12 (fun K hK=> ?_)
    have c0:=cell_of_row _ _ 0 _ _ (0,0) qh
    have c1:=cell_of_row _ _ 1 _ _ (0,0) qh
    have c2:=cell_of_row _ _ 2 _ _ (0,0) qh
    simp at c0 c1 c2
    have f0:=frozen_of_row _ _ 0 _ _ qh
    have f1:=frozen_of_row _ _ 1 _ _ qh
    have f2:=frozen_of_row _ _ 2 _ _ qh
    have gr:=Fs ((((Qg.mk0 (o:=X1.heap.size) hv hm dA dM dMA).store (i:=0) (.int .i64 nn)).store (i:=1) (.slice Av b.length cv)).store (i:=2) ((.slice (some ⟨X0.heap.size,0,none⟩) 0 l.length)))
    have st:=Fs (Vk qh (.int .i64 nn) (.slice Av b.length cv) ((.slice (some ⟨X0.heap.size,0,none⟩) 0 l.length)))
    have bl:=Fs (((hbq.setCell (p:=⟨X1.heap.size,0,none⟩) hO (.int .i64 nn)).setCell (p:=⟨X1.heap.size,1,none⟩) hO (.slice Av b.length cv)).setCell (p:=⟨X1.heap.size,2,none⟩) hO ((.slice (some ⟨X0.heap.size,0,none⟩) 0 l.length)))
    go_simp
    clear c0 c1 c2 f0 f1 f2
    refine hK.out _ _ ?_ (fun hHeld=> ?_)
    ·(try dsimp only);exact ⟨Zc k0 bl.out (by omega),Zc k1 bl.out (by omega),Zc k2 bl.out (by omega)⟩
    clear hK K
    try go_frame
    refine wpAnyH_done (by kernel_rfl) ?_ _
    go_wp2_with fail
    go_meet
    exact ⟨_,_,_,_,_,rfl,st.out,gr.out,by omega,bl.out⟩
  ·(try go_simp)
   obtain ⟨X1,hY⟩:∃V,V=X0.alloc (.cells #[.int .i64 0, .slice none 0 0, .slice none 0 0] 29):=⟨_,rfl⟩
   rw [←hY]
   have hx:Below X0.heap.size X0 X1:=by rw [hY];exact (Fv _ _).alloc (Fu _) _
   have hbqO:=hbq.size
   have hbq:=hbq.trans (hx.mono hbq.size)
   have qh:X1.heap[X0.heap.size]?=some (.cells #[.int .i64 0, .slice none 0 0, .slice none 0 0] 29 (0,0)):=by rw [hY];exact Jz _ _
   have hoX:X0.heap.size < X1.heap.size:=by rw [hY];simp
   have hO:W0.heap.size≤X0.heap.size:=hbqO
   clear hY hbqO
   refine hK.out _ _ ?_ (fun hHeld=> ?_)
   ·(try dsimp only);exact ⟨Zc k0 hbq (by omega),Zc k1 hbq (by omega),Zc k2 hbq (by omega)⟩
   clear hK K
   try go_frame
   refine Rd 2 9 (fun K hK=> ?_) (fun K hK=> ?_)
   ·(try go_simp)
    obtain ⟨X2,hY⟩:∃V,V=X1.alloc (.cells #[] 5):=⟨_,rfl⟩
    rw [←hY]
    have hx:Below X1.heap.size X1 X2:=by rw [hY];exact (Fv _ _).alloc (Fu _) _
    have dE:X1.heap.size≠X0.heap.size:=by omega
    have hbqE:=hbq.size
    have hbq:=hbq.trans (hx.mono hbq.size)
    have qh:=(hx.block _ hoX).trans qh
    have hoX:X0.heap.size < X2.heap.size:=Ea hoX hx.size
    have he:X2.ownsRow (w.heap.size+2) 5 1 (.slice (some ⟨X1.heap.size,0,none⟩) 0 0) 0 []:=by rw [hY];exact Ji rfl (by omega)
    clear hY hbqE
    refine hK.out _ _ ?_ (fun hHeld=> ?_)
    ·(try dsimp only);exact ⟨Zc k0 hbq (by omega),Zc k1 hbq (by omega),Zc k2 hbq (by omega)⟩
    clear hK K
    try go_frame
    refine Rd 5 9 (fun K hK=> ?_) (fun K hK=> ?_)
    ·refine Je _ (.tmp 8) (.tmp 10) 22 rfl (w.heap.size+2) 5 i1 (.int .u8 0) 1 1 underlying22 hj hy0 hy1 hy2 rfl (by decide) _ 0 [] rfl (by exact he) B b.length _ (Uy b) rfl (by exact Sl.below HI.out.1 ((hbW.trans (hbq.mono (by omega))).mono hB)) (Xm _) (by omega) (by unfold maxLen;omega) (by have:=hbq.size;omega) ?_
     intro v1 X3 hv hg hvv
     simp only [Nat.zero_add,List.nil_append] at hv
     obtain ⟨Av,cv,rfl⟩:=Zq hv
     have hvv:Value.ownBlock (.slice Av b.length cv)=some (X1.heap.size)∨Value.ownBlock (.slice Av b.length cv)=some X2.heap.size:=hvv
     have hg:X2.grownBy X3 (some (X1.heap.size)):=hg
     have dA:Value.ownBlock (.slice Av b.length cv)≠some (X0.heap.size):=fun e=> by
      rcases hvv with h|h
      ·rw [h] at e;exact dE (Fz e)
      ·rw [h] at e;have:=Fz e;omega
     have qh:=(hg.block _ hoX (fun e=> dE (Fz e).symm)).trans qh
     have hoX:X0.heap.size < X3.heap.size:=Ea hoX hg.size
     have hbq:=hbq.grown hg hbq.size (by intro k hk;have:=(he.lt (X1.heap.size) rfl).1;have:=Fz hk;omega)
     clear he hg hvv
     refine hK.out _ _ ?_ (fun hHeld=> ?_)
     ·(try dsimp only);exact ⟨Zc k0 hbq (by omega),Zc k1 hbq (by omega),Zc k2 hbq (by omega)⟩
     clear hK K
     try go_frame
     refine Zh 9 (fun K hK=> ?_)
     refine Yx _ _ _ 27 rfl (w.heap.size+2) 29 i0 (.agg #[.int .i64 0, .slice none 0 0, .slice none 0 0]) 3 underlying27 hi hz0 hz1 .i64 .i64 _ l.length rfl rfl rfl (by rw [hz2];omega) (by unfold maxLen;omega) (by have:=hbq.size;omega) ?_
     intro X4 hm hg
     have hx:=Ju (B:=X3.heap.size) hg (Fu _) (by intro k hk;cases hk)
     clear hg
     have dM:Value.ownBlock (.slice (some ⟨X3.heap.size,0,none⟩) 0 l.length)≠some (X0.heap.size):=fun e=> by
      have hk:X3.heap.size=X0.heap.size:=by simpa [Value.ownBlock] using e
      omega
     have dMA:∀g,Value.ownBlock (.slice (some ⟨X3.heap.size,0,none⟩) 0 l.length)=some g→Value.ownBlock (.slice Av b.length cv)≠some g:=fun g e1 e=> by
      have hk:X3.heap.size=g:=by simpa [Value.ownBlock] using e1
      have:=(hv.lt _ e).2;omega
     have hbq:=hbq.trans (hx.mono hbq.size)
     have qh:=(hx.block _ hoX).trans qh
     have hoX:X0.heap.size < X4.heap.size:=Ea hoX hx.size
     have hv:=Qb hv hx (Fu _)
     refine hK.out _ _ ?_ (fun hHeld=> ?_)
     ·(try dsimp only);exact ⟨Zc k0 hbq (by omega),Zc k1 hbq (by omega),Zc k2 hbq (by omega)⟩
     clear hK K
     try go_frame
     refine Za 10 (some 16) hHeld _ ?_;try go_frame
     refine Zh 12 (fun K hK=> ?_)
     have c0:=cell_of_row _ _ 0 _ _ (0,0) qh
     have c1:=cell_of_row _ _ 1 _ _ (0,0) qh
     have c2:=cell_of_row _ _ 2 _ _ (0,0) qh
     simp at c0 c1 c2
     have f0:=frozen_of_row _ _ 0 _ _ qh
     have f1:=frozen_of_row _ _ 1 _ _ qh
     have f2:=frozen_of_row _ _ 2 _ _ qh
     have gr:=Fs ((((Qg.mk0 (o:=X0.heap.size) hv hm dA dM dMA).store (i:=0) (.int .i64 nn)).store (i:=1) (.slice Av b.length cv)).store (i:=2) ((.slice (some ⟨X3.heap.size,0,none⟩) 0 l.length)))
     have st:=Fs (Vk qh (.int .i64 nn) (.slice Av b.length cv) ((.slice (some ⟨X3.heap.size,0,none⟩) 0 l.length)))
     have bl:=Fs (((hbq.setCell (p:=⟨X0.heap.size,0,none⟩) hO (.int .i64 nn)).setCell (p:=⟨X0.heap.size,1,none⟩) hO (.slice Av b.length cv)).setCell (p:=⟨X0.heap.size,2,none⟩) hO ((.slice (some ⟨X3.heap.size,0,none⟩) 0 l.length)))
     go_simp
     clear c0 c1 c2 f0 f1 f2
     refine hK.out _ _ ?_ (fun hHeld=> ?_)
     ·(try dsimp only);exact ⟨Zc k0 bl.out (by omega),Zc k1 bl.out (by omega),Zc k2 bl.out (by omega)⟩
     clear hK K
     try go_frame
     refine wpAnyH_done (by kernel_rfl) ?_ _
     go_wp2_with fail
     go_meet
     exact ⟨_,_,_,_,_,rfl,st.out,gr.out,by omega,bl.out⟩
    ·refine Yx _ _ _ 27 rfl (w.heap.size+2) 29 i0 (.agg #[.int .i64 0, .slice none 0 0, .slice none 0 0]) 3 underlying27 hi hz0 hz1 .i64 .i64 _ l.length rfl rfl rfl (by rw [hz2];omega) (by unfold maxLen;omega) (by have:=hbq.size;omega) ?_
     intro X3 hm hg
     have hx:=Ju (B:=X2.heap.size) hg (Fu _) (by intro k hk;cases hk)
     clear hg
     have dM:Value.ownBlock (.slice (some ⟨X2.heap.size,0,none⟩) 0 l.length)≠some (X0.heap.size):=fun e=> by
      have hk:X2.heap.size=X0.heap.size:=by simpa [Value.ownBlock] using e
      omega
     have dEM:∀g,Value.ownBlock (.slice (some ⟨X2.heap.size,0,none⟩) 0 l.length)=some g→X1.heap.size=g→False:=fun g e1 e=> by
      have hk:X2.heap.size=g:=by simpa [Value.ownBlock] using e1
      have:=(he.lt (X1.heap.size) rfl).2;omega
     have hbq:=hbq.trans (hx.mono hbq.size)
     have qh:=(hx.block _ hoX).trans qh
     have hoX:X0.heap.size < X3.heap.size:=Ea hoX hx.size
     have he:=Qb he hx (Fu _)
     refine hK.out _ _ ?_ (fun hHeld=> ?_)
     ·(try dsimp only);exact ⟨Zc k0 hbq (by omega),Zc k1 hbq (by omega),Zc k2 hbq (by omega)⟩
     clear hK K
     try go_frame
     refine Zh 5 (fun K hK=> ?_)
     refine Je _ (.tmp 8) (.tmp 10) 22 rfl (w.heap.size+2) 5 i1 (.int .u8 0) 1 1 underlying22 hj hy0 hy1 hy2 rfl (by decide) _ 0 [] rfl (by exact he) B b.length _ (Uy b) rfl (by exact Sl.below HI.out.1 ((hbW.trans (hbq.mono (by omega))).mono hB)) (Xm _) (by omega) (by unfold maxLen;omega) (by have:=hbq.size;omega) ?_
     intro v1 X4 hv hg hvv
     simp only [Nat.zero_add,List.nil_append] at hv
     obtain ⟨Av,cv,rfl⟩:=Zq hv
     have hvv:Value.ownBlock (.slice Av b.length cv)=some (X1.heap.size)∨Value.ownBlock (.slice Av b.length cv)=some X3.heap.size:=hvv
     have hg:X3.grownBy X4 (some (X1.heap.size)):=hg
     have dA:Value.ownBlock (.slice Av b.length cv)≠some (X0.heap.size):=fun e=> by
      rcases hvv with h|h
      ·rw [h] at e;exact dE (Fz e)
      ·rw [h] at e;have:=Fz e;omega
     have qh:=(hg.block _ hoX (fun e=> dE (Fz e).symm)).trans qh
     have hoX:X0.heap.size < X4.heap.size:=Ea hoX hg.size
     have dMA:∀g,Value.ownBlock (.slice (some ⟨X2.heap.size,0,none⟩) 0 l.length)=some g→Value.ownBlock (.slice Av b.length cv)≠some g:=fun g e1 e=> by
      rcases hvv with h|h
      ·rw [h] at e;exact dEM _ e1 (Fz e)
      ·rw [h] at e;have:=Fz e;have:=(hm.lt _ e1).2;omega
     have hm:=hm.kept hg (by right;intro e;exact dEM _ e rfl)
     have hbq:=hbq.grown hg hbq.size (by intro k hk;have:=(he.lt (X1.heap.size) rfl).1;have:=Fz hk;omega)
     clear he hg hvv
     refine hK.out _ _ ?_ (fun hHeld=> ?_)
     ·(try dsimp only);exact ⟨Zc k0 hbq (by omega),Zc k1 hbq (by omega),Zc k2 hbq (by omega)⟩
     clear hK K
     try go_frame
     refine Za 10 (some 16) hHeld _ ?_;try go_frame
     refine Zh 12 (fun K hK=> ?_)
     have c0:=cell_of_row _ _ 0 _ _ (0,0) qh
     have c1:=cell_of_row _ _ 1 _ _ (0,0) qh
     have c2:=cell_of_row _ _ 2 _ _ (0,0) qh
     simp at c0 c1 c2
     have f0:=frozen_of_row _ _ 0 _ _ qh
     have f1:=frozen_of_row _ _ 1 _ _ qh
     have f2:=frozen_of_row _ _ 2 _ _ qh
     have gr:=Fs ((((Qg.mk0 (o:=X0.heap.size) hv hm dA dM dMA).store (i:=0) (.int .i64 nn)).store (i:=1) (.slice Av b.length cv)).store (i:=2) ((.slice (some ⟨X2.heap.size,0,none⟩) 0 l.length)))
     have st:=Fs (Vk qh (.int .i64 nn) (.slice Av b.length cv) ((.slice (some ⟨X2.heap.size,0,none⟩) 0 l.length)))
     have bl:=Fs (((hbq.setCell (p:=⟨X0.heap.size,0,none⟩) hO (.int .i64 nn)).setCell (p:=⟨X0.heap.size,1,none⟩) hO (.slice Av b.length cv)).setCell (p:=⟨X0.heap.size,2,none⟩) hO ((.slice (some ⟨X2.heap.size,0,none⟩) 0 l.length)))
     go_simp
     clear c0 c1 c2 f0 f1 f2
     refine hK.out _ _ ?_ (fun hHeld=> ?_)
     ·(try dsimp only);exact ⟨Zc k0 bl.out (by omega),Zc k1 bl.out (by omega),Zc k2 bl.out (by omega)⟩
     clear hK K
     try go_frame
     refine wpAnyH_done (by kernel_rfl) ?_ _
     go_wp2_with fail
     go_meet
     exact ⟨_,_,_,_,_,rfl,st.out,gr.out,by omega,bl.out⟩
   ·refine Yx _ _ _ 27 rfl (w.heap.size+2) 29 i0 (.agg #[.int .i64 0, .slice none 0 0, .slice none 0 0]) 3 underlying27 hi hz0 hz1 .i64 .i64 _ l.length rfl rfl rfl (by rw [hz2];omega) (by unfold maxLen;omega) (by have:=hbq.size;omega) ?_
    intro X2 hm hg
    have hx:=Ju (B:=X1.heap.size) hg (Fu _) (by intro k hk;cases hk)
    clear hg
    have dM:Value.ownBlock (.slice (some ⟨X1.heap.size,0,none⟩) 0 l.length)≠some (X0.heap.size):=fun e=> by
     have hk:X1.heap.size=X0.heap.size:=by simpa [Value.ownBlock] using e
     omega
    have hbq:=hbq.trans (hx.mono hbq.size)
    have qh:=(hx.block _ hoX).trans qh
    have hoX:X0.heap.size < X2.heap.size:=Ea hoX hx.size
    refine hK.out _ _ ?_ (fun hHeld=> ?_)
    ·(try dsimp only);exact ⟨Zc k0 hbq (by omega),Zc k1 hbq (by omega),Zc k2 hbq (by omega)⟩
    clear hK K
    try go_frame
    refine Zh 2 (fun K hK=> ?_)
    (try go_simp)
    obtain ⟨X3,hY⟩:∃V,V=X2.alloc (.cells #[] 5):=⟨_,rfl⟩
    rw [←hY]
    have hx:Below X2.heap.size X2 X3:=by rw [hY];exact (Fv _ _).alloc (Fu _) _
    have dE:X2.heap.size≠X0.heap.size:=by omega
    have dEM:∀g,Value.ownBlock (.slice (some ⟨X1.heap.size,0,none⟩) 0 l.length)=some g→X2.heap.size=g→False:=fun g e1 e=> by have:=(hm.lt _ e1).2;omega
    have hbqE:=hbq.size
    have hbq:=hbq.trans (hx.mono hbq.size)
    have qh:=(hx.block _ hoX).trans qh
    have hoX:X0.heap.size < X3.heap.size:=Ea hoX hx.size
    have hm:=Qb hm hx (Fu _)
    have he:X3.ownsRow (w.heap.size+2) 5 1 (.slice (some ⟨X2.heap.size,0,none⟩) 0 0) 0 []:=by rw [hY];exact Ji rfl (by omega)
    clear hY hbqE
    refine hK.out _ _ ?_ (fun hHeld=> ?_)
    ·(try dsimp only);exact ⟨Zc k0 hbq (by omega),Zc k1 hbq (by omega),Zc k2 hbq (by omega)⟩
    clear hK K
    try go_frame
    refine Zh 5 (fun K hK=> ?_)
    refine Je _ (.tmp 8) (.tmp 10) 22 rfl (w.heap.size+2) 5 i1 (.int .u8 0) 1 1 underlying22 hj hy0 hy1 hy2 rfl (by decide) _ 0 [] rfl (by exact he) B b.length _ (Uy b) rfl (by exact Sl.below HI.out.1 ((hbW.trans (hbq.mono (by omega))).mono hB)) (Xm _) (by omega) (by unfold maxLen;omega) (by have:=hbq.size;omega) ?_
    intro v1 X4 hv hg hvv
    simp only [Nat.zero_add,List.nil_append] at hv
    obtain ⟨Av,cv,rfl⟩:=Zq hv
    have hvv:Value.ownBlock (.slice Av b.length cv)=some (X2.heap.size)∨Value.ownBlock (.slice Av b.length cv)=some X3.heap.size:=hvv
    have hg:X3.grownBy X4 (some (X2.heap.size)):=hg
    have dA:Value.ownBlock (.slice Av b.length cv)≠some (X0.heap.size):=fun e=> by
     rcases hvv with h|h
     ·rw [h] at e;exact dE (Fz e)
     ·rw [h] at e;have:=Fz e;omega
    have qh:=(hg.block _ hoX (fun e=> dE (Fz e).symm)).trans qh
    have hoX:X0.heap.size < X4.heap.size:=Ea hoX hg.size
    have dMA:∀g,Value.ownBlock (.slice (some ⟨X1.heap.size,0,none⟩) 0 l.length)=some g→Value.ownBlock (.slice Av b.length cv)≠some g:=fun g e1 e=> by
     rcases hvv with h|h
     ·rw [h] at e;exact dEM _ e1 (Fz e)
     ·rw [h] at e;have:=Fz e;have:=(hm.lt _ e1).2;omega
    have hm:=hm.kept hg (by right;intro e;exact dEM _ e rfl)
    have hbq:=hbq.grown hg hbq.size (by intro k hk;have:=(he.lt (X2.heap.size) rfl).1;have:=Fz hk;omega)
    clear he hg hvv
    refine hK.out _ _ ?_ (fun hHeld=> ?_)
    ·(try dsimp only);exact ⟨Zc k0 hbq (by omega),Zc k1 hbq (by omega),Zc k2 hbq (by omega)⟩
    clear hK K
    try go_frame
    refine Za 10 (some 16) hHeld _ ?_;try go_frame
    refine Zh 12 (fun K hK=> ?_)
    have c0:=cell_of_row _ _ 0 _ _ (0,0) qh
    have c1:=cell_of_row _ _ 1 _ _ (0,0) qh
    have c2:=cell_of_row _ _ 2 _ _ (0,0) qh
    simp at c0 c1 c2
    have f0:=frozen_of_row _ _ 0 _ _ qh
    have f1:=frozen_of_row _ _ 1 _ _ qh
    have f2:=frozen_of_row _ _ 2 _ _ qh
    have gr:=Fs ((((Qg.mk0 (o:=X0.heap.size) hv hm dA dM dMA).store (i:=0) (.int .i64 nn)).store (i:=1) (.slice Av b.length cv)).store (i:=2) ((.slice (some ⟨X1.heap.size,0,none⟩) 0 l.length)))
    have st:=Fs (Vk qh (.int .i64 nn) (.slice Av b.length cv) ((.slice (some ⟨X1.heap.size,0,none⟩) 0 l.length)))
    have bl:=Fs (((hbq.setCell (p:=⟨X0.heap.size,0,none⟩) hO (.int .i64 nn)).setCell (p:=⟨X0.heap.size,1,none⟩) hO (.slice Av b.length cv)).setCell (p:=⟨X0.heap.size,2,none⟩) hO ((.slice (some ⟨X1.heap.size,0,none⟩) 0 l.length)))
    go_simp
    clear c0 c1 c2 f0 f1 f2
    refine hK.out _ _ ?_ (fun hHeld=> ?_)
    ·(try dsimp only);exact ⟨Zc k0 bl.out (by omega),Zc k1 bl.out (by omega),Zc k2 bl.out (by omega)⟩
    clear hK K
    try go_frame
    refine wpAnyH_done (by kernel_rfl) ?_ _
    go_wp2_with fail
    go_meet
    exact ⟨_,_,_,_,_,rfl,st.out,gr.out,by omega,bl.out⟩
 obtain ⟨o,A,c,A',c',rfl,st,gr,ho,bl⟩:=hcut
 have hWo:W0.heap.size≤o:=by omega
 have hlo:o < wc.heap.size:=by
  have:=(Array.getElem?_eq_some_iff.1 st).1
  exact this
 have h00:∃(D:List VM) (Ai:Option Addr) (ci:Nat),Hid (D.map VM.d=(l.take 0).map VM.d)∧D.length=0∧wc.heap[o]?=some (.cells #[.int .i64 nn, .slice A b.length c, .slice Ai 0 ci] 29 (0,0))∧Qg wc (w.heap.size+2) o b (.slice A b.length c) (.slice Ai 0 ci) D∧o < wc.heap.size∧Below W0.heap.size W0 wc:=
  ⟨[],A',c',Fs rfl,rfl,st,gr,hlo,bl⟩
 have m2:=Zc k2 bl (by omega)
 clear st gr bl hlo
 go_wp2
 go_loopw [20] (fun i wr=> ∃j:Nat,j≤l.length∧i= .int .i64 j∧∃(D:List VM) (Ai:Option Addr) (ci:Nat),Hid (D.map VM.d=(l.take j).map VM.d)∧D.length=j∧wr.heap[o]?=some (.cells #[.int .i64 nn, .slice A b.length c, .slice Ai j ci] 29 (0,0))∧Qg wr (w.heap.size+2) o b (.slice A b.length c) (.slice Ai j ci) D∧o < wr.heap.size∧Below W0.heap.size W0 wr) (fun i _=> l.length - (intOf i).toNat)
 case atStart=> exact ⟨0,Eb _,rfl,h00⟩
 case round=>
  clear h00
  obtain ⟨j,hj,rfl,D,Ai,ci,hD,hDl,qh,gr,hol,bb⟩:=hrel
  have hWr:=bb.size
  clear m2
  have m2:=Zc k2 bb (by omega)
  by_cases hlt:j < l.length
  ·obtain ⟨bi,off,rfl,hbi,e0,e1,e2⟩:=HC.out j hlt
   have hrd:=HI.out.2.2 l[j] (Fw hlt)
   have bw:=(hbW.trans (bb.mono (by omega))).mono hB
   have d0:=Zc e0 bw hbi
   have d1:=Zc e1 bw hbi
   have d2:=Zc e2 bw hbi
   have D0:=Zc e0 (hbW.mono hB) hbi
   have D1:=Zc e1 (hbW.mono hB) hbi
   have D2:=Zc e2 (hbW.mono hB) hbi
   clear e0 e1 e2 bw
   obtain ⟨P1,p1,P2,p2,ev1,ev2, -, -⟩:=HI.out.2.at_ j hlt
   have HE:=Fs (Ft ev1 ev2)
   rw [ev1] at d1
   rw [ev2] at d2
   clear ev1 ev2
   obtain ⟨wq,hwq⟩:∃V,V=wr.alloc (.cells #[.int .i64 l[j].n, .slice P1 l[j].b.length p1, .slice P2 l[j].items.length p2] 29):=⟨_,rfl⟩
   have bq:Below wr.heap.size wr wq:=by rw [hwq];exact (Fv _ _).alloc (Fu _) _
   have po:wq.heap[wr.heap.size]?=some (.cells #[.int .i64 l[j].n,l[j].vb,l[j].vi] 29 (0,0)):=by rw [HE.out.1,HE.out.2,hwq];exact Jz _ _
   have hob:wr.heap.size < wq.heap.size:=by rw [hwq];simp
   have hno:wr.heap.size≠o:=by omega
   have hAi:(Value.slice Ai j ci).ownBlock≠some wr.heap.size:=fun e=> by have:=(gr.row.lt _ e).2;omega
   have HQ:=Fs hwq
   go_wp2_with fail
   rw [←HQ.out]
   clear hwq HQ
   have gr:=gr.below bq
   have qh:=(bq.block _ hol).trans qh
   have hol:o < wq.heap.size:=Ea hol bq.size
   have bb:=bb.trans (bq.mono hWr)
   have hWr:=bb.size
   have hSb:=Td po
   refine wp_region_held_drew (S:=fun w9=> w9.cell? ⟨wr.heap.size,0,none⟩=some (.int .i64 l[j].n)∧w9.cell? ⟨wr.heap.size,1,none⟩=some l[j].vb∧w9.cell? ⟨wr.heap.size,2,none⟩=some l[j].vi) (by kernel_rfl) ?_ (fun hHeld=> ?_)
   ·exact hSb
   obtain ⟨X,hX⟩:∃V,V=wq.drew:=⟨_,rfl⟩
   rw [←hX] at hHeld ⊢
   have bX:Below wq.heap.size wq X:=by rw [hX];exact (Fv _ _).drew
   clear hX
   have gX:=Fs (gr.below bX)
   have qX:=(bX.block _ hol).trans qh
   have eX:=Fs (bb.trans (bX.mono hWr))
   clear gr
   have poX:=(bX.block _ hob).trans po
   have hobX:wr.heap.size < X.heap.size:=Ea hob bX.size
   refine Za 0 (some 24) hHeld _ ?_;try go_frame
   refine Za 2 (some 26) hHeld _ ?_;try go_frame
   refine Rd 1 3 (fun K hK=> ?_) (fun K hK=> ?_)
   ·have co2:=cell_of_row _ _ 2 _ _ (0,0) qX
    simp at co2
    go_simp
    clear co2
    refine hK.out _ _ ?_ (fun hHeld=> ?_)
    ·exact hHeld
    clear hK K
    try go_frame
    refine Zh 3 (fun K hK=> ?_)
    go_simp
    refine (IH.out.1 l[j] (Fw hlt) B X (hrd.bel ((hbW.trans (eX.out.mono (by omega))).mono hB)) (by have:=eX.out.size;omega) (IH.out.2 _ (Fw hlt))).mono ?_
    rintro e w2 ⟨_,rfl,⟨y,hy,rfl,hoy⟩,hb2⟩
    obtain ⟨yn,yb,yvb,yvi,yl⟩:=y
    obtain ⟨B1,f1,ev1⟩:=Zq hoy.own.bytes
    obtain ⟨B2,f2,ev2⟩:=Zq hoy.own.row
    simp only [VM.vb_mk,VM.b_mk,VM.vi_mk,VM.items_mk] at ev1 ev2
    subst ev1 ev2
    unfold Qs
    simp only [VM.n_mk,VM.vb_mk,VM.vi_mk]
    have q2:=(hb2.block _ (Ea hol bX.size)).trans qX
    have po2:=(hb2.block _ hobX).trans poX
    have hob2:wr.heap.size < w2.heap.size:=Ea hobX hb2.size
    have e2:=Fs (eX.out.trans (hb2.mono eX.out.size))
    have g2:=Fs (gX.out.below hb2)
    have hoy:=Fs (Ft hoy (Ft hy hb2))
    clear hy hb2
    (try go_wp2_with fail)
    refine hK.out _ _ ?_ (fun hHeld=> ?_)
    ·exact Td po2
    clear hK K
    try go_frame
    refine Zh 4 (fun K hK=> ?_)
    (try go_simp)
    obtain ⟨w3,hw3⟩:∃V,V=w2.alloc (.cells #[.int .i64 yn, .slice B1 yb.length f1, .slice B2 yl.length f2] 29):=⟨_,rfl⟩
    rw [←hw3]
    have hb3:Below w2.heap.size w2 w3:=by rw [hw3];exact (Fv _ _).alloc (Fu _) _
    have hs3:Sl w3 (w2.heap.size+1) 3 (.slice (some ⟨w2.heap.size,0,none⟩) 1 1) 1 (Ze (.mk yn yb (.slice B1 yb.length f1) (.slice B2 yl.length f2) yl)):=by rw [hw3];exact Tk (x:= .mk yn yb (.slice B1 yb.length f1) (.slice B2 yl.length f2) yl) rfl
    have hol2:o < w2.heap.size:=Ea hol (Nat.le_trans bX.size hoy.out.2.2.size)
    have q3:=(hb3.block _ hol2).trans q2
    have po3:=(hb3.block _ hob2).trans po2
    have hob3:wr.heap.size < w3.heap.size:=Ea hob2 hb3.size
    have e3:=Fs (e2.out.trans (hb3.mono e2.out.size))
    have g3:=Fs (g2.out.below hb3)
    clear hw3
    refine hK.out _ _ ?_ (fun hHeld=> ?_)
    ·exact Td po3
    clear hK K
    try go_frame
    refine Zh 5 (fun K hK=> ?_)
    refine Je _ (.tmp 25) (.tmp 28) 27 rfl (w.heap.size+2) 29 i0 (.agg #[.int .i64 0, .slice none 0 0, .slice none 0 0]) 3 56 underlying27 hi hz0 hz1 hz2 rfl (by decide) _ j (D.flatMap Ze) rfl (by have:=g3.out.row;rw [hDl] at this;exact this) (w2.heap.size+1) 1 _ (Ze (.mk yn yb (.slice B1 yb.length f1) (.slice B2 yl.length f2) yl)) rfl (by exact hs3) (Yl (x:= .mk yn yb (.slice B1 yb.length f1) (.slice B2 yl.length f2) yl) rfl rfl) (by omega) (by unfold maxLen;omega) (by have:=e3.out.size;omega) ?_
    intro v9 w4 hown4 hg4 hv4
    obtain ⟨A9,c9,rfl⟩:=Zq hown4
    have hg4:w3.grownBy w4 (Value.slice Ai j ci).ownBlock:=hg4
    have hv4:(Value.slice A9 (j+1) c9).ownBlock=(Value.slice Ai j ci).ownBlock∨(Value.slice A9 (j+1) c9).ownBlock=some w3.heap.size:=hv4
    have hne:some o≠(Value.slice Ai j ci).ownBlock:=fun e=> by
     have hn:=g2.out.nd
     rw [List.nodup_cons] at hn
     exact hn.1 (by rw [←e];simp)
    have q4:=(hg4.block _ (Ea hol2 hb3.size) hne).trans q3
    have po4:=(hg4.block _ hob3 (fun e=> hAi e.symm)).trans po3
    have g4:Qg w4 (w.heap.size+2) o b (.slice A b.length c) (.slice A9 (j+1) c9) (D++ [.mk yn yb (.slice B1 yb.length f1) (.slice B2 yl.length f2) yl]):=by
     refine Qg.snoc (w:=X) (w2:=w2) (wa:=w3) (vi:= .slice Ai j ci) g2.out hoy.out.1 ?_ hoy.out.2.2.size (by have:=eX.out.size;omega) hb3 (by rw [hDl];exact hown4) hg4 hv4
     intro g hg
     rw [List.mem_cons] at hg
     rcases hg with rfl|hg
     ·exact Ea hol bX.size
     ·exact (gX.out.lt g hg).2
    have e4:=e3.out.grown hg4 e3.out.size (by
     intro k hk
     have:=(g3.out.row.lt k hk).1
     omega)
    have z4:o < w4.heap.size:=Ea hol2 (Nat.le_trans hb3.size hg4.size)
    have G4:=Fs (Ft g4 e4)
    clear hown4 hg4 hv4 hne g4 e4 hs3
    refine hK.out _ _ ?_ (fun hHeld=> ?_)
    ·exact Td po4
    clear hK K
    try go_frame
    refine Za 6 (some 30) hHeld _ ?_;try go_frame
    refine Zh 7 (fun K hK=> ?_)
    have co2:=cell_of_row _ _ 2 _ _ (0,0) q4
    simp at co2
    have cof:=frozen_of_row _ _ 2 _ _ q4
    have st:=Fs (Mz q4 (.slice A9 (j+1) c9))
    have po5:=(Go.Proofs.YteldgdelmaeokaaGreatDoor.putCells_heap (g:=o) (k:=wr.heap.size) hno [.slice A9 (j+1) c9] w4 2).trans po4
    have G5:=Fs (Ft (G4.out.1.store (i:=2) (.slice A9 (j+1) c9)) (Ft (G4.out.2.setCell (p:=⟨o,2,none⟩) hWo (.slice A9 (j+1) c9)) (show o < (w4.setCell ⟨o,2,none⟩ (.slice A9 (j+1) c9)).heap.size by simp;exact z4)))
    go_simp
    clear co2 cof
    refine hK.out _ _ ?_ (fun hHeld=> ?_)
    ·exact Td po5
    clear hK K
    try go_frame
    refine wpAnyH_done (by kernel_rfl) ?_ _
    have HD:=Fs (show (D++ [(VM.mk yn yb (.slice B1 yb.length f1) (.slice B2 yl.length f2) yl)]).map VM.d=(l.take (j+1)).map VM.d by
     rw [List.map_append,hD.out,List.take_succ_eq_append_getElem hlt,List.map_append];simp only [List.map_cons,List.map_nil];rw [hoy.out.2.1])
    have HDl:(D++ [(VM.mk yn yb (.slice B1 yb.length f1) (.slice B2 yl.length f2) yl)]).length=j+1:=by rw [List.length_append,hDl];rfl
    clear q4 q3 q2 qX m2 d0 d1 d2 hSb hHeld qh bb hrd
    go_wp2
    go_roundw
    case rel=> exact ⟨j+1,by omega,by go_num,_,_,_,HD,HDl,st.out,G5.out.1,G5.out.2.2,G5.out.2.1⟩
    case measure=> simp [intOf];omega
   ·go_simp
    refine (IH.out.1 l[j] (Fw hlt) B X (hrd.bel ((hbW.trans (eX.out.mono (by omega))).mono hB)) (by have:=eX.out.size;omega) (IH.out.2 _ (Fw hlt))).mono ?_
    rintro e w2 ⟨_,rfl,⟨y,hy,rfl,hoy⟩,hb2⟩
    obtain ⟨yn,yb,yvb,yvi,yl⟩:=y
    obtain ⟨B1,f1,ev1⟩:=Zq hoy.own.bytes
    obtain ⟨B2,f2,ev2⟩:=Zq hoy.own.row
    simp only [VM.vb_mk,VM.b_mk,VM.vi_mk,VM.items_mk] at ev1 ev2
    subst ev1 ev2
    unfold Qs
    simp only [VM.n_mk,VM.vb_mk,VM.vi_mk]
    have q2:=(hb2.block _ (Ea hol bX.size)).trans qX
    have po2:=(hb2.block _ hobX).trans poX
    have hob2:wr.heap.size < w2.heap.size:=Ea hobX hb2.size
    have e2:=Fs (eX.out.trans (hb2.mono eX.out.size))
    have g2:=Fs (gX.out.below hb2)
    have hoy:=Fs (Ft hoy (Ft hy hb2))
    clear hy hb2
    (try go_wp2_with fail)
    refine hK.out _ _ ?_ (fun hHeld=> ?_)
    ·exact Td po2
    clear hK K
    try go_frame
    refine Rd 1 4 (fun K hK=> ?_) (fun K hK=> ?_)
    ·have co2:=cell_of_row _ _ 2 _ _ (0,0) q2
     simp at co2
     go_simp
     clear co2
     refine hK.out _ _ ?_ (fun hHeld=> ?_)
     ·exact hHeld
     clear hK K
     try go_frame
     refine Zh 4 (fun K hK=> ?_)
     (try go_simp)
     obtain ⟨w3,hw3⟩:∃V,V=w2.alloc (.cells #[.int .i64 yn, .slice B1 yb.length f1, .slice B2 yl.length f2] 29):=⟨_,rfl⟩
     rw [←hw3]
     have hb3:Below w2.heap.size w2 w3:=by rw [hw3];exact (Fv _ _).alloc (Fu _) _
     have hs3:Sl w3 (w2.heap.size+1) 3 (.slice (some ⟨w2.heap.size,0,none⟩) 1 1) 1 (Ze (.mk yn yb (.slice B1 yb.length f1) (.slice B2 yl.length f2) yl)):=by rw [hw3];exact Tk (x:= .mk yn yb (.slice B1 yb.length f1) (.slice B2 yl.length f2) yl) rfl
     have hol2:o < w2.heap.size:=Ea hol (Nat.le_trans bX.size hoy.out.2.2.size)
     have q3:=(hb3.block _ hol2).trans q2
     have po3:=(hb3.block _ hob2).trans po2
     have hob3:wr.heap.size < w3.heap.size:=Ea hob2 hb3.size
     have e3:=Fs (e2.out.trans (hb3.mono e2.out.size))
     have g3:=Fs (g2.out.below hb3)
     clear hw3
     refine hK.out _ _ ?_ (fun hHeld=> ?_)
     ·exact Td po3
     clear hK K
     try go_frame
     refine Zh 5 (fun K hK=> ?_)
     refine Je _ (.tmp 25) (.tmp 28) 27 rfl (w.heap.size+2) 29 i0 (.agg #[.int .i64 0, .slice none 0 0, .slice none 0 0]) 3 56 underlying27 hi hz0 hz1 hz2 rfl (by decide) _ j (D.flatMap Ze) rfl (by have:=g3.out.row;rw [hDl] at this;exact this) (w2.heap.size+1) 1 _ (Ze (.mk yn yb (.slice B1 yb.length f1) (.slice B2 yl.length f2) yl)) rfl (by exact hs3) (Yl (x:= .mk yn yb (.slice B1 yb.length f1) (.slice B2 yl.length f2) yl) rfl rfl) (by omega) (by unfold maxLen;omega) (by have:=e3.out.size;omega) ?_
     intro v9 w4 hown4 hg4 hv4
     obtain ⟨A9,c9,rfl⟩:=Zq hown4
     have hg4:w3.grownBy w4 (Value.slice Ai j ci).ownBlock:=hg4
     have hv4:(Value.slice A9 (j+1) c9).ownBlock=(Value.slice Ai j ci).ownBlock∨(Value.slice A9 (j+1) c9).ownBlock=some w3.heap.size:=hv4
     have hne:some o≠(Value.slice Ai j ci).ownBlock:=fun e=> by
      have hn:=g2.out.nd
      rw [List.nodup_cons] at hn
      exact hn.1 (by rw [←e];simp)
     have q4:=(hg4.block _ (Ea hol2 hb3.size) hne).trans q3
     have po4:=(hg4.block _ hob3 (fun e=> hAi e.symm)).trans po3
     have g4:Qg w4 (w.heap.size+2) o b (.slice A b.length c) (.slice A9 (j+1) c9) (D++ [.mk yn yb (.slice B1 yb.length f1) (.slice B2 yl.length f2) yl]):=by
      refine Qg.snoc (w:=X) (w2:=w2) (wa:=w3) (vi:= .slice Ai j ci) g2.out hoy.out.1 ?_ hoy.out.2.2.size (by have:=eX.out.size;omega) hb3 (by rw [hDl];exact hown4) hg4 hv4
      intro g hg
      rw [List.mem_cons] at hg
      rcases hg with rfl|hg
      ·exact Ea hol bX.size
      ·exact (gX.out.lt g hg).2
     have e4:=e3.out.grown hg4 e3.out.size (by
      intro k hk
      have:=(g3.out.row.lt k hk).1
      omega)
     have z4:o < w4.heap.size:=Ea hol2 (Nat.le_trans hb3.size hg4.size)
     have G4:=Fs (Ft g4 e4)
     clear hown4 hg4 hv4 hne g4 e4 hs3
     refine hK.out _ _ ?_ (fun hHeld=> ?_)
     ·exact Td po4
     clear hK K
     try go_frame
     refine Za 6 (some 30) hHeld _ ?_;try go_frame
     refine Zh 7 (fun K hK=> ?_)
     have co2:=cell_of_row _ _ 2 _ _ (0,0) q4
     simp at co2
     have cof:=frozen_of_row _ _ 2 _ _ q4
     have st:=Fs (Mz q4 (.slice A9 (j+1) c9))
     have po5:=(Go.Proofs.YteldgdelmaeokaaGreatDoor.putCells_heap (g:=o) (k:=wr.heap.size) hno [.slice A9 (j+1) c9] w4 2).trans po4
     have G5:=Fs (Ft (G4.out.1.store (i:=2) (.slice A9 (j+1) c9)) (Ft (G4.out.2.setCell (p:=⟨o,2,none⟩) hWo (.slice A9 (j+1) c9)) (show o < (w4.setCell ⟨o,2,none⟩ (.slice A9 (j+1) c9)).heap.size by simp;exact z4)))
     go_simp
     clear co2 cof
     refine hK.out _ _ ?_ (fun hHeld=> ?_)
     ·exact Td po5
     clear hK K
     try go_frame
     refine wpAnyH_done (by kernel_rfl) ?_ _
     have HD:=Fs (show (D++ [(VM.mk yn yb (.slice B1 yb.length f1) (.slice B2 yl.length f2) yl)]).map VM.d=(l.take (j+1)).map VM.d by
      rw [List.map_append,hD.out,List.take_succ_eq_append_getElem hlt,List.map_append];simp only [List.map_cons,List.map_nil];rw [hoy.out.2.1])
     have HDl:(D++ [(VM.mk yn yb (.slice B1 yb.length f1) (.slice B2 yl.length f2) yl)]).length=j+1:=by rw [List.length_append,hDl];rfl
     clear q4 q3 q2 qX m2 d0 d1 d2 hSb hHeld qh bb hrd
     go_wp2
     go_roundw
     case rel=> exact ⟨j+1,by omega,by go_num,_,_,_,HD,HDl,st.out,G5.out.1,G5.out.2.2,G5.out.2.1⟩
     case measure=> simp [intOf];omega
    ·(try go_simp)
     obtain ⟨w3,hw3⟩:∃V,V=w2.alloc (.cells #[.int .i64 yn, .slice B1 yb.length f1, .slice B2 yl.length f2] 29):=⟨_,rfl⟩
     rw [←hw3]
     have hb3:Below w2.heap.size w2 w3:=by rw [hw3];exact (Fv _ _).alloc (Fu _) _
     have hs3:Sl w3 (w2.heap.size+1) 3 (.slice (some ⟨w2.heap.size,0,none⟩) 1 1) 1 (Ze (.mk yn yb (.slice B1 yb.length f1) (.slice B2 yl.length f2) yl)):=by rw [hw3];exact Tk (x:= .mk yn yb (.slice B1 yb.length f1) (.slice B2 yl.length f2) yl) rfl
     have hol2:o < w2.heap.size:=Ea hol (Nat.le_trans bX.size hoy.out.2.2.size)
     have q3:=(hb3.block _ hol2).trans q2
     have po3:=(hb3.block _ hob2).trans po2
     have hob3:wr.heap.size < w3.heap.size:=Ea hob2 hb3.size
     have e3:=Fs (e2.out.trans (hb3.mono e2.out.size))
     have g3:=Fs (g2.out.below hb3)
     clear hw3
     refine hK.out _ _ ?_ (fun hHeld=> ?_)
     ·exact Td po3
     clear hK K
     try go_frame
     refine Zh 1 (fun K hK=> ?_)
     have co2:=cell_of_row _ _ 2 _ _ (0,0) q3
     simp at co2
     go_simp
     clear co2
     refine hK.out _ _ ?_ (fun hHeld=> ?_)
     ·exact hHeld
     clear hK K
     try go_frame
     refine Zh 5 (fun K hK=> ?_)
     refine Je _ (.tmp 25) (.tmp 28) 27 rfl (w.heap.size+2) 29 i0 (.agg #[.int .i64 0, .slice none 0 0, .slice none 0 0]) 3 56 underlying27 hi hz0 hz1 hz2 rfl (by decide) _ j (D.flatMap Ze) rfl (by have:=g3.out.row;rw [hDl] at this;exact this) (w2.heap.size+1) 1 _ (Ze (.mk yn yb (.slice B1 yb.length f1) (.slice B2 yl.length f2) yl)) rfl (by exact hs3) (Yl (x:= .mk yn yb (.slice B1 yb.length f1) (.slice B2 yl.length f2) yl) rfl rfl) (by omega) (by unfold maxLen;omega) (by have:=e3.out.size;omega) ?_
     intro v9 w4 hown4 hg4 hv4
     obtain ⟨A9,c9,rfl⟩:=Zq hown4
     have hg4:w3.grownBy w4 (Value.slice Ai j ci).ownBlock:=hg4
     have hv4:(Value.slice A9 (j+1) c9).ownBlock=(Value.slice Ai j ci).ownBlock∨(Value.slice A9 (j+1) c9).ownBlock=some w3.heap.size:=hv4
     have hne:some o≠(Value.slice Ai j ci).ownBlock:=fun e=> by
      have hn:=g2.out.nd
      rw [List.nodup_cons] at hn
      exact hn.1 (by rw [←e];simp)
     have q4:=(hg4.block _ (Ea hol2 hb3.size) hne).trans q3
     have po4:=(hg4.block _ hob3 (fun e=> hAi e.symm)).trans po3
     have g4:Qg w4 (w.heap.size+2) o b (.slice A b.length c) (.slice A9 (j+1) c9) (D++ [.mk yn yb (.slice B1 yb.length f1) (.slice B2 yl.length f2) yl]):=by
      refine Qg.snoc (w:=X) (w2:=w2) (wa:=w3) (vi:= .slice Ai j ci) g2.out hoy.out.1 ?_ hoy.out.2.2.size (by have:=eX.out.size;omega) hb3 (by rw [hDl];exact hown4) hg4 hv4
      intro g hg
      rw [List.mem_cons] at hg
      rcases hg with rfl|hg
      ·exact Ea hol bX.size
      ·exact (gX.out.lt g hg).2
     have e4:=e3.out.grown hg4 e3.out.size (by
      intro k hk
      have:=(g3.out.row.lt k hk).1
      omega)
     have z4:o < w4.heap.size:=Ea hol2 (Nat.le_trans hb3.size hg4.size)
     have G4:=Fs (Ft g4 e4)
     clear hown4 hg4 hv4 hne g4 e4 hs3
     refine hK.out _ _ ?_ (fun hHeld=> ?_)
     ·exact Td po4
     clear hK K
     try go_frame
     refine Za 6 (some 30) hHeld _ ?_;try go_frame
     refine Zh 7 (fun K hK=> ?_)
     have co2:=cell_of_row _ _ 2 _ _ (0,0) q4
     simp at co2
     have cof:=frozen_of_row _ _ 2 _ _ q4
     have st:=Fs (Mz q4 (.slice A9 (j+1) c9))
     have po5:=(Go.Proofs.YteldgdelmaeokaaGreatDoor.putCells_heap (g:=o) (k:=wr.heap.size) hno [.slice A9 (j+1) c9] w4 2).trans po4
     have G5:=Fs (Ft (G4.out.1.store (i:=2) (.slice A9 (j+1) c9)) (Ft (G4.out.2.setCell (p:=⟨o,2,none⟩) hWo (.slice A9 (j+1) c9)) (show o < (w4.setCell ⟨o,2,none⟩ (.slice A9 (j+1) c9)).heap.size by simp;exact z4)))
     go_simp
     clear co2 cof
     refine hK.out _ _ ?_ (fun hHeld=> ?_)
     ·exact Td po5
     clear hK K
     try go_frame
     refine wpAnyH_done (by kernel_rfl) ?_ _
     have HD:=Fs (show (D++ [(VM.mk yn yb (.slice B1 yb.length f1) (.slice B2 yl.length f2) yl)]).map VM.d=(l.take (j+1)).map VM.d by
      rw [List.map_append,hD.out,List.take_succ_eq_append_getElem hlt,List.map_append];simp only [List.map_cons,List.map_nil];rw [hoy.out.2.1])
     have HDl:(D++ [(VM.mk yn yb (.slice B1 yb.length f1) (.slice B2 yl.length f2) yl)]).length=j+1:=by rw [List.length_append,hDl];rfl
     clear q4 q3 q2 qX m2 d0 d1 d2 hSb hHeld qh bb hrd
     go_wp2
     go_roundw
     case rel=> exact ⟨j+1,by omega,by go_num,_,_,_,HD,HDl,st.out,G5.out.1,G5.out.2.2,G5.out.2.1⟩
     case measure=> simp [intOf];omega
  ·have hjn:j=l.length:=by omega
   subst hjn
   have r0':=Zc r0 bb (by omega)
   have r1':=Zc r1 bb (by omega)
   have r2':=Zc r2 bb (by omega)
   have x0:=cell_of_row _ _ 0 _ _ (0,0) qh
   have x1:=cell_of_row _ _ 1 _ _ (0,0) qh
   have x2:=cell_of_row _ _ 2 _ _ (0,0) qh
   simp at x0 x1 x2
   have g0:=(bb.frozen (p:=⟨w.heap.size+1,0,none⟩) (by show w.heap.size+1 < _;omega)).trans (fr 0)
   have g1:=(bb.frozen (p:=⟨w.heap.size+1,1,none⟩) (by show w.heap.size+1 < _;omega)).trans (fr 1)
   have g2:=(bb.frozen (p:=⟨w.heap.size+1,2,none⟩) (by show w.heap.size+1 < _;omega)).trans (fr 2)
   have hX:Zv.mk nn b (l.map VM.d)=Zv.mk nn b (D.map VM.d):=by rw [hD.out,List.take_length]
   have HX:=Fs hX
   have HB:=Fs (Ft (gr.fin nn) (hbW.trans (bb.mono (by omega))))
   have how:w.heap.size+1≠o:=by omega
   clear gr bb hX hD k0 k1 k2 r0 r1 r2 fr qh
   go_wp2
   refine bodyPost_ret (v:= .agg #[.int .i64 nn, .slice A b.length c, .slice Ai l.length ci]) (by simp [results,results27,go_sem,r0',r1',r2',x2]) rfl ⟨_,rfl,?_,?_⟩
   ·rw [HX.out]
    refine Ue.wide (Ue.keep (lo':=w.heap.size+1) (hi':=w.heap.size+2) HB.out.1 ?_ (by omega)) (by omega) (by simp)
    repeat (refine Xq.setCell ?_ (by omega) (by omega) _)
    exact Xq.refl _ _ _
   ·exact (((HB.out.2.setCell (p:=⟨w.heap.size+1,0,none⟩) (by show w.heap.size≤w.heap.size+1;omega) _).setCell (p:=⟨w.heap.size+1,1,none⟩) (by show w.heap.size≤w.heap.size+1;omega) _).setCell (p:=⟨w.heap.size+1,2,none⟩) (by show w.heap.size≤w.heap.size+1;omega) _)
end Go.Proofs.YteldgdelmaeokaaGreatDoor
