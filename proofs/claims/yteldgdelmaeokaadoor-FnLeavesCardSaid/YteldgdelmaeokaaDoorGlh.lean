/- Out of RdQ, RdB, RdI: the walks and plain laws that the claim needs. No condition but those that each theorem names. -/
import Derived.Test.YteldgdelmaeokaaDoorGld
import Derived.Test.YteldgdelmaeokaaDoorGla
import Derived.Test.YteldgdelmaeokaaDoorGf
import Derived.Test.YteldgdelmaeokaaDoorGlf
import Derived.Test.YteldgdelmaeokaaDoorGlg
set_option linter.unusedSimpArgs false
set_option linter.unusedVariables false
namespace Go.Proofs.YteldgdelmaeokaaDoor
open Go.RowKit
theorem itE_foldl {g:Int→Nat→Option Nat} {h:Int→Nat→Nat} (hg:∀q p e,g q p=some e→h q p=e):∀(ks:List Int) (p e:Nat),itE g ks p=some e→ks.foldl (fun p q=> h q p) p=e
 | [],p,e,he=> by
  rw [itE] at he
  exact Option.some.inj he
 |k::ks,p,e,he=> by
  rw [itE] at he
  cases hx:g k p with
  |none=> rw [hx] at he;cases he
  |some e1=>
   rw [hx] at he
   rw [List.foldl_cons,hg k p e1 hx]
   exact itE_foldl hg ks e1 e he
theorem gE_end {D:List RuleD} {b:List UInt8} {F:Nat} (q:Int) (p e:Nat) (h:gE D b F q p=some e):endE D b F q p=e:=by
 unfold gE at h
 unfold endE
 simp only [Option.map_eq_some_iff] at h
 obtain ⟨x,h1,h2⟩:=h
 rw [h1]
 exact h2
theorem itE_pre {g:Int→Nat→Option Nat} {r:RuleD} {n:Int} {i m e:Nat} (h:itE g (itR r n m) i=some e) (j:Nat) (hj:j≤m):∃p,itE g (itR r n j) i=some p:=by
 cases hx:itE g (itR r n j) i with
 |some p=> exact ⟨p,rfl⟩
 |none=>
  have:=itE_none hx (m - j)
  rw [show j+(m - j)=m by omega,h] at this
  cases this
theorem itE_step {g:Int→Nat→Option Nat} {r:RuleD} {n:Int} {i m e j p:Nat} (h:itE g (itR r n m) i=some e) (hj:j < m) (hp:itE g (itR r n j) i=some p):∃p',g (itemR r n j) p=some p'∧itE g (itR r n (j+1)) i=some p':=by
 obtain ⟨p',h1⟩:=itE_pre h (j+1) hj
 refine ⟨p',?_,h1⟩
 rw [itR_succ,itE_snoc,hp] at h1
 exact h1
theorem gE_more {D:List RuleD} {b:List UInt8} {f:Nat} (q:Int) (p e:Nat) (h:gE D b f q p=some e):gE D b (f+1) q p=some e:=by
 unfold gE at h ⊢
 simp only [Option.map_eq_some_iff] at h ⊢
 obtain ⟨y,h1,h2⟩:=h
 exact ⟨y,rdE_more f q p y h1,h2⟩
theorem rdB_c {D:List RuleD} {b:List UInt8} {g:Int→Nat→Option Nat} {r:RuleD} {k:Int} {i:Nat} {n:Int} {c e:Nat} (h6:r.kind=6→r.kids.length≤8) (h:rdB D b g r k i=some (n,c,e)):c≤40:=by
 have ht:∀{o:Option Nat} {m:Int} {cc:Nat},o.map (fun x=> (m,cc,x))=some (n,c,e)→cc=c:=fun {o m cc} h=> by
  cases o with
  |none=> cases h
  |some x=>
   simp only [Option.map_some,Option.some.injEq,Prod.mk.injEq] at h
   exact h.2.1
 unfold rdB at h
 split at h
 ·cases hx:rdI D b k i with
  |none=> rw [hx] at h;cases h
  |some x=>
   rw [hx] at h
   simp only [Option.map_some,Option.some.injEq,Prod.mk.injEq] at h
   omega
 split at h
 ·split at h
  ·simp only [Option.some.injEq,Prod.mk.injEq] at h;omega
  ·cases h
 split at h
 ·split at h
  ·simp only [Option.some.injEq,Prod.mk.injEq] at h;omega
  ·cases h
 split at h
 ·split at h
  ·cases h
  ·split at h
   ·simp only [Option.some.injEq,Prod.mk.injEq] at h;omega
   ·cases h
 split at h
 ·split at h
  ·cases h
  ·split at h
   ·cases h
   ·have:=ht h;omega
 split at h
 ·rename_i q6
  have:=ht h
  have:=h6 q6
  omega
 split at h
 ·split at h
  ·cases h
  ·split at h
   ·cases h
   ·have:=ht h;omega
 split at h
 ·split at h
  ·cases h
  ·split at h
   ·cases h
   ·have:=ht h;omega
 split at h
 ·split at h
  ·cases h
  ·split at h
   ·cases h
   ·split at h
    ·simp only [Option.some.injEq,Prod.mk.injEq] at h;omega
    ·cases h
 ·have:=ht h;omega
theorem rdB_item {D:List RuleD} {b:List UInt8} {g:Int→Nat→Option Nat} {r:RuleD} {k:Nat} {i:Nat} {n:Int} {c e:Nat} (hr:ruleOk D k r=true) (h:rdB D b g r k i=some (n,c,e)):∀j,j < c→∃q:Nat,itemR r n j=q∧q < k:=by
 intro j hj
 have hkr:=ruleOk_kind hr
 have ht:∀{o:Option Nat} {m:Int} {cc:Nat},o.map (fun x=> (m,cc,x))=some (n,c,e)→m=n∧cc=c:=fun {o m cc} h=> by
  cases o with
  |none=> cases h
  |some x=>
   simp only [Option.map_some,Option.some.injEq,Prod.mk.injEq] at h
   exact ⟨h.1,h.2.1⟩
 unfold rdB at h
 split at h
 ·cases hx:rdI D b k i with
  |none=> rw [hx] at h;cases h
  |some x=>
   rw [hx] at h
   simp only [Option.map_some,Option.some.injEq,Prod.mk.injEq] at h
   omega
 split at h
 ·split at h
  ·simp only [Option.some.injEq,Prod.mk.injEq] at h;omega
  ·cases h
 split at h
 ·split at h
  ·simp only [Option.some.injEq,Prod.mk.injEq] at h;omega
  ·cases h
 split at h
 ·split at h
  ·cases h
  ·split at h
   ·simp only [Option.some.injEq,Prod.mk.injEq] at h;omega
   ·cases h
 split at h
 ·rename_i q5
  split at h
  ·cases h
  ·split at h
   ·cases h
   ·obtain ⟨rfl,rfl⟩:=ht h
    rw [itemR_5 q5]
    have hl:=kids_5 hkr q5
    rw [kid_at _ _ (by omega)]
    exact ruleOk_kids hr _
 split at h
 ·rename_i q6
  obtain ⟨rfl,rfl⟩:=ht h
  exact own_item (nb:=0) hr (by rw [own_6 q6];simp) hj
 split at h
 ·rename_i q7
  split at h
  ·cases h
  ·split at h
   ·cases h
   ·rename_i hn
    obtain ⟨rfl,rfl⟩:=ht h
    exact own_item (nb:=0) hr (by rw [own_7 q7];simp;omega) hj
 split at h
 ·rename_i q8
  split at h
  ·cases h
  ·split at h
   ·cases h
   ·obtain ⟨rfl,rfl⟩:=ht h
    exact own_item (nb:=0) hr (by rw [own_8 q8];simp;omega) hj
 split at h
 ·rename_i q9
  split at h
  ·cases h
  ·split at h
   ·cases h
   ·split at h
    ·simp only [Option.some.injEq,Prod.mk.injEq] at h
     obtain ⟨rfl,rfl, -⟩:=h
     exact own_item (nb:=0) hr (by rw [own_9 q9];simp) hj
    ·cases h
 ·have:=ht h;omega
def mxE:Nat→Nat
 |0=> 0
 |f+1=> 1+40*mxE f
theorem mxE_bd {f:Nat} (h:f≤6):mxE f≤105025641:=by
 have:f=0∨f=1∨f=2∨f=3∨f=4∨f=5∨f=6:=by omega
 rcases this with rfl|rfl|rfl|rfl|rfl|rfl|rfl <;> decide
theorem itX_len {g:Int→Nat→List (Int × Nat × Nat)} {h:Int→Nat→Nat} {M:Nat} (hg:∀q p,(g q p).length≤M):∀(qs:List Int) (p:Nat),(itX g h qs p).length≤qs.length*M
 | [],p=> by rw [itX];simp
 |q::qs,p=> by
  have h1:=hg q p
  have h2:=itX_len (h:=h) hg qs (h q p)
  rw [itX,List.length_append,List.length_cons,Nat.succ_mul]
  omega
theorem rdE_c {D:List RuleD} {b:List UInt8} (hD:validD D=true) {F:Nat} {k:Int} {i:Nat} {n:Int} {c e:Nat} (h:rdE D b F k i=some (n,c,e)):c≤40:=by
 cases F with
 |zero=> rw [rdE] at h;cases h
 |succ F=>
  cases hr:ruleAt D k with
  |none=> rw [rdE,hr] at h;cases h
  |some r=>
   rw [rdE_at hr] at h
   refine rdB_c (fun q6=> ?_) h
   by_cases hk:0≤k∧k < D.length
   ·obtain ⟨j,hj,rfl,e2⟩:=ruleAt_some hk.1 hk.2
    rw [e2] at hr
    have hf:=(validD_facts hD).2 j hj
    rw [Option.some.inj hr] at hf
    have:=hf.c6 q6
    omega
   ·rw [ruleAt_none (by omega)] at hr;cases hr
theorem ixE_len {D:List RuleD} {b:List UInt8} (hD:validD D=true) (F:Nat):∀(f:Nat) (k:Int) (i:Nat),(ixE D b F f k i).length≤mxE f
 |0,k,i=> by rw [ixE];exact Nat.le_refl _
 |f+1,k,i=> by
  rw [ixE]
  split
  ·rename_i r n c e h1 h2
   have h3:=rdE_c hD h2
   have h4:=itX_len (g:=ixE D b F f) (h:=endE D b F) (fun q p=> ixE_len (b:=b) hD F f q p) (itR r n c) (hdE D b r i)
   rw [itR_length] at h4
   rw [List.length_cons,mxE]
   have h5:c*mxE f≤40*mxE f:=Nat.mul_le_mul_right _ h3
   omega
  ·exact Nat.zero_le _
theorem nameB_bd {s:ByteArray} (h:isName s=true):s.size≤12:=by
 unfold isName at h
 simp only [Bool.and_eq_true,decide_eq_true_eq] at h
 exact h.2.2
theorem stepB_bd {D:List RuleD} {r:RuleD} (h:kindR D r=true) (i:Nat) (hi:i≤1048576):(stepR r i).size≤12:=by
 unfold stepR
 split
 ·have:(fmtI (i:Int)).length≤7:=by
   unfold fmtI
   split
   ·simp
   ·rw [if_neg (by omega),Int.natAbs_natCast]
    exact digs_length i 7 (by omega)
  show (fmtI (i:Int)).toArray.size≤12
  simpa using Nat.le_trans this (by omega)
 ·split
  ·rename_i h5 h6
   have hk:=h6.1
   unfold kindR at h
   rw [if_neg (by omega),if_neg (by omega),if_neg (by omega),if_neg (by omega),if_neg (by omega),if_pos hk,Bool.and_eq_true] at h
   have hn:=h.2
   unfold okNames at hn
   rw [Bool.and_eq_true] at hn
   have hlt:i < r.names.length:=by omega
   have:=(allTo_iff _ _).1 hn.1 i hlt
   rw [nmAt_eq _ _ hlt,Bool.and_eq_true] at this
   rw [Int.toNat_natCast,List.getD,List.getElem?_eq_getElem hlt]
   exact nameB_bd this.1
  ·split
   ·decide
   ·split
    ·decide
    ·split
     ·decide
     ·split
      ·decide
      ·decide
end Go.Proofs.YteldgdelmaeokaaDoor
namespace Go.Proofs.YteldgdelmaeokaaDoor
open Go.RowKit
def tri (x:Ent):Int × Int × Int:=(x.rule,x.start,x.stop)
def triN (y:Int × Nat × Nat):Int × Int × Int:=(y.1,(y.2.1:Int),(y.2.2:Int))
theorem ents_one (l:List Ent):∀u∈entsCells l,u.oneCell'=true:=by
 intro u hu
 obtain ⟨e, -,he⟩:=List.mem_flatMap.1 hu
 simp only [entCells,List.mem_cons,List.not_mem_nil,or_false] at he
 rcases he with rfl|rfl|rfl|rfl <;> rfl
theorem entsCells_app (a b:List Ent):entsCells (a++b)=entsCells a++entsCells b:=by simp [entsCells]
theorem head_app {A:Type} {a b:List A} {x:A} (h:a.head?=some x):(a++b).head?=some x:=by
 cases a with
 |nil=> cases h
 |cons y a=> exact h
theorem own_one4 (w:World) (e:TypeId) (x y z u:Value):(w.alloc (.cells #[x,y,z,u] e)).ownsRow w.heap.size e 4 (.slice (some ⟨w.heap.size,0,none⟩) 1 1) 1 [x,y,z,u]:=
 ⟨rfl, .inr ⟨w.heap.size,1, #[x,y,z,u],rfl,Nat.le_refl _,heap_alloc_new w _,Nat.le_refl _,by simp [maxLen],rfl,rfl⟩⟩
def BdE (xs:List (Int × Nat × Nat)) (e:Nat) (path:ByteArray) (w:World) (en:Ending) (w':World):Prop:=
 ∃(v:Value) (es:List Ent),en= .returned (.tuple #[v, .int .i64 e])∧Hid (es.map tri=xs.map triN)∧(es.map Ent.path).head?=some path∧(∀x∈es,x.path.size≤1000)∧w'.ownsRow w.heap.size 49 4 v es.length (entsCells es)∧Below w.heap.size w w'
def BdC (L:List RM) (k:Nat):Prop:=∀(f:Nat),k < f→f≤6→∀(vD vb:Value) (b:List UInt8) (i:Nat) (path:ByteArray) (B:Nat) (w:World) (n:Int) (c e:Nat),SlD w B vD L→SlB w B vb b→B≤w.heap.size→i≤b.length→b.length≤400→rdE (L.map RM.d) b L.length k i=some (n,c,e)→path.size+14*(k+1)≤1000→
 Calls Tryd.prog 87 #[.agg #[vD], .int .i64 k,vb, .int .i64 i, .string path] w (BdE (ixE (L.map RM.d) b L.length f k i) e path w)
set_option maxHeartbeats 16000000 in
set_option maxRecDepth 100000 in
theorem l19Build_any (L:List RM) (sm:∀r∈L,r.d.small 1048576) (hv:validD (L.map RM.d)=true) (h6:L.length≤6) (k:Nat):k < L.length→BdC L k:=by
 induction k using Nat.strongRecOn with
 |ind k ih=>
 intro hk f1 hf1 hf6 vD vb b i path B w n cn e h hb hB hi hl hrd hpath
 obtain ⟨i0,hi0,hz0,hz1,hz2⟩:=info_parts Tryd.info_entry
 obtain ⟨f,rfl⟩:∃f,f1=f+1:=⟨f1 - 1,by omega⟩
 obtain ⟨F,hF⟩:∃F,L.length=F+1:=⟨L.length - 1,by omega⟩
 have hlm:(L.map RM.d).length=L.length:=List.length_map ..
 have hro:=validD_at hv (k:=k) (by rw [hlm];exact hk)
 rw [List.getElem_map] at hro
 have hkind:=ruleOk_kind hro
 have hra:ruleAt (L.map RM.d) k=some L[k].d:=by rw [ruleAt_at (by rw [hlm];exact hk),List.getElem_map]
 have hc40:=rdE_c hv hrd
 obtain ⟨hd,hhd⟩:∃hd,hd=hdE (L.map RM.d) b L[k].d i:=⟨_,rfl⟩
 have hvw:∃e',itE (gE (L.map RM.d) b L.length) (itR L[k].d n cn) hd=some e'∧(0 < cn→hd≤b.length)∧e≤b.length∧∀j,j < cn→∃q:Nat,itemR L[k].d n j=q∧q < k:=by
  have hle:=rdE_le _ _ _ _ _ _ hrd hi
  have h1:=hrd
  rw [hF] at h1
  have hno:=h1
  rw [rdE_at hra] at hno
  have hit:=rdB_item hro hno
  obtain ⟨r,hr,hview⟩:=rdE_view h1 hi
  rw [hra] at hr
  cases hr
  rcases hview with ⟨rfl, -, -⟩|⟨-, -,h3,e',h4, -⟩
  ·exact ⟨hd,by rw [show itR L[k].d n 0= [] from rfl,itE],fun h=> absurd h (by omega),hle.2,fun j hj=> absurd hj (by omega)⟩
  ·refine ⟨e',?_,fun _=> by rw [hhd];exact h3,hle.2,hit⟩
   rw [hhd,hF]
   exact itE_more (fun q p e=> gE_more q p e) _ _ _ h4
 obtain ⟨e',hfull,hhl,hel,hQ⟩:=hvw
 have hNX:∀j p,j < cn→itE (gE (L.map RM.d) b L.length) (itR L[k].d n j) hd=some p→∃p',gE (L.map RM.d) b L.length (itemR L[k].d n j) p=some p'∧itE (gE (L.map RM.d) b L.length) (itR L[k].d n (j+1)) hd=some p':=fun j p hj hp=> itE_step hfull hj hp
 have hPL:∀j p,j < cn→itE (gE (L.map RM.d) b L.length) (itR L[k].d n j) hd=some p→p≤b.length:=fun j p hj hp=> (itE_le (fun q p e=> gE_le q p e) _ _ _ hp (hhl (by omega))).2
 have hXF:ixE (L.map RM.d) b L.length (f+1) k i=(((k:Nat):Int),i,e)::itX (ixE (L.map RM.d) b L.length f) (endE (L.map RM.d) b L.length) (itR L[k].d n cn) hd:=by rw [ixE,hra,hrd,hhd]
 have hRD:∀W,Below w.heap.size w W→Calls Tryd.prog 104 #[.agg #[vD], .int .i64 k,vb, .int .i64 i] W (RdR (some (n,cn,e)) W):=fun W hw=> by
  have:=l11Read_any L sm hv k hk L.length hk vD vb b i B W (h.below (hw.mono hB)) (hb.below (hw.mono hB)) (by have:=hw.size;omega) hi hl
  rw [hrd] at this
  exact this
 have hRB:∀q,q < k→∀p p',p≤b.length→gE (L.map RM.d) b L.length q p=some p'→∀pt:ByteArray,pt.size+14*(q+1)≤1000→∀W,Below w.heap.size w W→Calls Tryd.prog 87 #[.agg #[vD], .int .i64 q,vb, .int .i64 p, .string pt] W (BdE (ixE (L.map RM.d) b L.length f q p) p' pt W):=fun q hq p p' hp hg pt hpt W hw=> by
  unfold gE at hg
  simp only [Option.map_eq_some_iff] at hg
  obtain ⟨⟨n2,c2,e2⟩,hg1,rfl⟩:=hg
  exact ih q hq (by omega) f (by omega) (by omega) vD vb b p pt B W n2 c2 e2 (h.below (hw.mono hB)) (hb.below (hw.mono hB)) (by have:=hw.size;omega) hp hl hg1 hpt
 have hIT:∀(j:Nat),j < cn→∀W,Below w.heap.size w W→Calls Tryd.prog 39 #[rmV L[k], .int .i64 n, .int .i64 j] W fun e w'=> e= .returned (.int .i64 (itemR L[k].d n j))∧Below W.heap.size W w':=fun j hj W hw=>
  l9Item_any (L.map RM.d) L[k] n j B W ((h.2 _ (List.getElem_mem hk)).below (hw.mono hB)) (by have:=hw.size;omega) hkind (sm _ (List.getElem_mem hk)) (by omega)
 have hSP:∀(j:Nat),j < cn→∀W,Below w.heap.size w W→Calls Tryd.prog 75 #[rmV L[k], .int .i64 j] W fun e w'=> e= .returned (.string (stepR L[k].d j))∧Below W.heap.size W w':=fun j hj W hw=>
  l18Step_any L[k] j B W ((h.2 _ (List.getElem_mem hk)).below (hw.mono hB)) (by have:=hw.size;omega) (by omega) (by omega) (sm _ (List.getElem_mem hk))
 have HSB:=Lib.hid (fun j (hj:j≤1048576)=> stepB_bd hkind j hj)
 have hIN:(L[k].d.kind=5∨L[k].d.kind=7)→∃(q0 bk ok:Nat) (A5:Option Addr) (c5:Nat),L[k].vk= .slice A5 L[k].d.kids.length c5∧A5=some ⟨bk,ok,none⟩∧bk < B∧0 < L[k].d.kids.length∧hd=(match rdI (L.map RM.d) b q0 i with|none=> i|some (_,e)=> e)∧(∀W,Below w.heap.size w W→W.cell? ⟨bk,ok,none⟩=some (.int .i64 q0))∧∀W,Below w.heap.size w W→Calls Tryd.prog 105 #[.agg #[vD], .int .i64 q0,vb, .int .i64 i] W fun e w'=> e= .returned (riT (rdI (L.map RM.d) b q0 i) i)∧Below W.heap.size W w':=fun h57=> by
  have hf0:=(validD_facts hv).2 k (by rw [hlm];exact hk)
  rw [List.getElem_map] at hf0
  have h0:0 < L[k].d.kids.length∧0≤limitOf (L.map RM.d) (kid L[k].d 0):=by
   rcases h57 with h5|h7
   ·have:=hf0.c5 h5;omega
   ·exact ⟨by have:=hf0.c7 h7;omega,lim_7 hkind h7⟩
  obtain ⟨q0,hq0, -,ek0, -,hs1,hs4, -⟩:=fldL hv hk h0.1 h0.2
  obtain ⟨A5,c5,e5, -⟩:=(h.2 _ (List.getElem_mem hk)).k.one
  obtain ⟨bk,ok,e6,hbk,hc6⟩:=fld_cells h hk h0.1 e5
  refine ⟨q0,bk,ok,A5,c5,e5,e6,hbk,h0.1,?_,fun W hw=> by rw [←ek0];exact cell_keep hc6 (hw.mono hB) hbk,fun W hw=> l11Int_any vD vb L b q0 i B W (h.below (hw.mono hB)) (hb.below (hw.mono hB)) (by have:=hw.size;omega) hq0 ⟨hs1,hs4⟩ hi hl⟩
  rw [hhd]
  unfold hdE
  rw [if_pos h57,kid_at _ _ h0.1,ek0]
  cases rdI (L.map RM.d) b q0 i <;> rfl
 have hh8:L[k].d.kind=8→hd=i+1:=fun h8=> by rw [hhd];unfold hdE;rw [if_neg (by omega),if_pos h8]
 have hhn:¬(L[k].d.kind=5∨L[k].d.kind=7)→¬L[k].d.kind=8→hd=i:=fun h1 h2=> by rw [hhd];unfold hdE;rw [if_neg h1,if_neg h2]
 obtain ⟨A,c,rfl,hc,hm, -⟩:=h.open_
 obtain ⟨Ab,cb,rfl,hcb,hmb, -⟩:=hb.one
 obtain ⟨b0,off,A1,c1,A2,c2,A3,c3,A4,c4,rfl,hbB,e1,e2,e3,e4,m1,m2,m3,m4,hcell⟩:=rule_cells h k hk
 unfold rmV at hIT hSP
 rw [e1,e2,e3,e4] at hIT hSP
 rw [e4] at hIN
 have HNX:=Lib.hid hNX
 have HPL:=Lib.hid hPL
 have HXF:=Lib.hid hXF
 have HRD:=Lib.hid hRD
 have HRB:=Lib.hid hRB
 have HIT:=Lib.hid hIT
 have HSP:=Lib.hid hSP
 have HIN:=Lib.hid hIN
 have HH8:=Lib.hid hh8
 have HHN:=Lib.hid hhn
 have HQ:=Lib.hid hQ
 have HV:=Lib.hid hv
 have HMX:=Lib.hid (mxE_bd (f:=f) (by omega))
 unfold maxLen at hm hmb m4
 clear hNX hPL hXF hRD hRB hIT hSP hIN hh8 hhn hQ hhd hfull hhl h hb ih sm hro hra hrd e1 e2 e3 e4 hF
 obtain ⟨W0,hW0⟩:∃W0,W0=w.alloc (.cells #[.slice (some ⟨b0,off,none⟩) L.length c] 26):=⟨_,rfl⟩
 have hb0:Below w.heap.size w W0:=by rw [hW0];exact (Below.refl w.heap.size w).alloc (Nat.le_refl _) _
 have Kd:Blk W0 w.heap.size 26 #[.slice (some ⟨b0,off,none⟩) L.length c]:=by rw [hW0];exact Blk.new w _ _
 have s0:W0.cell? ⟨w.heap.size,0,none⟩=some (.slice (some ⟨b0,off,none⟩) L.length c):=Kd.cell 0 rfl
 obtain ⟨x0,x1,x2,x3,x4,x5,x6,x7⟩:=hcell W0 (below_cells hb0 hB)
 have hbx:b0 < w.heap.size:=by omega
 clear hcell
 go_enter Tryd.func87,Tryd.ntmps87
 go_upto_region 1 with fail
 rw [←hW0]
 clear hW0
 obtain ⟨W1,hW1⟩:∃W1,W1=W0.alloc (.cells #[.string L[k].d.name, .int .i64 L[k].d.kind, .int .i64 L[k].d.size, .bool L[k].d.little, .slice A1 L[k].d.bytes.length c1, .slice A2 L[k].d.names.length c2, .slice A3 L[k].d.tags.length c3, .slice A4 L[k].d.kids.length c4] 73):=⟨_,rfl⟩
 have h01:Below W0.heap.size W0 W1:=by rw [hW1];exact (Below.refl _ _).alloc (Nat.le_refl _) _
 have Kr:Blk W1 W0.heap.size 73 #[.string L[k].d.name, .int .i64 L[k].d.kind, .int .i64 L[k].d.size, .bool L[k].d.little, .slice A1 L[k].d.bytes.length c1, .slice A2 L[k].d.names.length c2, .slice A3 L[k].d.tags.length c3, .slice A4 L[k].d.kids.length c4]:=by rw [hW1];exact Blk.new W0 _ _
 have hzw0:w.heap.size < W0.heap.size:=Kd.lt
 have H1:=Lib.hid (And.intro (below_step h01 hb0) (And.intro (Kd.below h01) Kr))
 clear Kd h01 hb0
 go_upto_region 2 with fail
 rw [←hW1]
 clear hW1 s0 x0 x1 x2 x3 x4 x5 x6 x7 Kr
 have s0:W1.cell? ⟨w.heap.size,0,none⟩=some (.slice (some ⟨b0,off,none⟩) L.length c):=H1.out.2.1.cell 0 rfl
 go_wp2_with fail
 refine (HRD.out _ H1.out.1).mono ?_
 rintro e2 w2 ⟨n',B1,m1',d1,B2,m2',d2,next,code,rfl,hrk,bel⟩
 obtain ⟨r1,r2,r3,r4⟩:=hrk
 have r1:=r1.symm
 have r2:=r2.symm
 subst r1 r2 r3 r4
 obtain ⟨W3,hW3⟩:∃W3,W3=w2.alloc (.cells #[.int .i64 n, .slice B1 m1' d1, .slice B2 cn d2] 29):=⟨_,rfl⟩
 have h23:Below w2.heap.size w2 W3:=by rw [hW3];exact (Below.refl _ _).alloc (Nat.le_refl _) _
 have Kx:Blk W3 w2.heap.size 29 #[.int .i64 n, .slice B1 m1' d1, .slice B2 cn d2]:=by rw [hW3];exact Blk.new w2 _ _
 have b13:=below_step h23 bel
 have KD:=Lib.hid (H1.out.2.1.below b13)
 have KR:=Lib.hid (H1.out.2.2.below b13)
 have KX:=Lib.hid Kx
 have H3:=Lib.hid (below_step b13 H1.out.1)
 have hz3:w2.heap.size < W3.heap.size:=Kx.lt
 have hzw3:w.heap.size≤W3.heap.size:=H3.out.size
 clear h23 Kx b13 bel s0 H1 HRD
 go_upto_region 3 with fail
 rw [←hW3]
 clear hW3
 obtain ⟨W4,hW4⟩:∃W4,W4=W3.alloc (.cells #[.string path, .int .i64 k, .int .i64 i, .int .i64 e] 49):=⟨_,rfl⟩
 have ho4:W4.ownsRow W3.heap.size 49 4 (.slice (some ⟨W3.heap.size,0,none⟩) 1 1) 1 (entsCells [⟨path,k,i,e⟩]):=by rw [hW4];exact own_one4 _ _ _ _ _ _
 have h34:Below W3.heap.size W3 W4:=by rw [hW4];exact (Below.refl _ _).alloc (Nat.le_refl _) _
 have HO4:=Lib.hid (And.intro ho4 h34)
 clear ho4
 go_upto_region 4 with fail
 rw [←hW4]
 clear hW4
 obtain ⟨⟨t0,t1,t2,t3,t4,t5,t6,t7⟩, -⟩:=(KR.out.below h34).c8
 obtain ⟨⟨v0,v1,v2⟩, -⟩:=(KX.out.below h34).c3
 have s0:W4.cell? ⟨w.heap.size,0,none⟩=some (.slice (some ⟨b0,off,none⟩) L.length c):=(KD.out.below h34).cell 0 rfl
 have hz4:=h34.size
 clear h34
 by_cases h57:L[k].d.kind=5∨L[k].d.kind=7
 ·obtain ⟨q0,bk,ok,A5,c5,e5,e6,hbk,hkl,hhd,hkc,hcall⟩:=HIN.out h57
  simp only [Value.slice.injEq] at e5
  obtain ⟨rfl, -,rfl⟩:=e5
  subst e6
  have hbkw:bk < w.heap.size:=by omega
  have hk0:=hkc W4 (below_step HO4.out.2 H3.out)
  have hpos:∃n9 b9,riT (rdI (L.map RM.d) b q0 i) i= .tuple #[.int .i64 n9, .int .i64 hd, .bool b9]:=by
   rw [hhd]
   cases rdI (L.map RM.d) b q0 i with
   |none=> exact ⟨_,_,rfl⟩
   |some y=> exact ⟨_,_,rfl⟩
  obtain ⟨n9,b9,hpos⟩:=hpos
  have hcall:∀W,Below w.heap.size w W→Calls Tryd.prog 105 #[.agg #[.slice (some ⟨b0,off,none⟩) L.length c], .int .i64 q0, .slice Ab b.length cb, .int .i64 i] W fun e w'=> e= .returned (.tuple #[.int .i64 n9, .int .i64 hd, .bool b9])∧Below W.heap.size W w':=fun W hw=> by
   have:=hcall W hw
   rwa [hpos] at this
  have HIN:=Lib.hid hcall
  have HKK:=Lib.hid h57
  clear hhd hkc hcall hpos
  have bq:=(Below.refl W4.heap.size W4).drew
  rcases HKK.out with q5|q7
  ·rw [q5] at t1
   clear q5 h57
   go_wp2_with fail
   refine wp_region_held_drew (S:=(fun w9=> w9.cell? ⟨w.heap.size,0,none⟩=some (.slice (some ⟨b0,off,none⟩) L.length c)∧w9.cell? ⟨W0.heap.size,7,none⟩=some (.slice (some ⟨bk,ok,none⟩) L[k].d.kids.length c4)∧w9.cell? ⟨bk,ok,none⟩=some (.int .i64 q0))) (by kernel_rfl) ?_ (fun hHeld=> ?_)
   ·(try dsimp only);exact ⟨s0,t7,hk0⟩
   refine rgTake 0 (some 51) hHeld _ ?_;try go_frame
   refine rgTake 1 (some 52) hHeld _ ?_;try go_frame
   refine rgTake 2 (some 53) hHeld _ ?_;try go_frame
   refine rgTake 3 (some 54) hHeld _ ?_;try go_frame
   refine rgTake 4 (some 55) hHeld _ ?_;try go_frame
   refine rgTake 5 (some 56) hHeld _ ?_;try go_frame
   refine rgTake 6 (some 57) hHeld _ ?_;try go_frame
   refine rgStep 7 (fun K hK=> ?_)
   go_simp
   refine (HIN.out _ (below_step bq (below_step HO4.out.2 H3.out))).mono ?_;rintro e3 w5 ⟨rfl,bel⟩;have bq:=below_step bel bq
   (try go_wp2_with fail)
   refine hK.out _ _ ?_ (fun hHeld=> ?_)
   ·(try dsimp only);exact ⟨cell_later bq s0,cell_later bq t7,cell_later bq hk0⟩
   clear hK K
   try go_frame
   refine rgTake 8 (some 50) hHeld _ ?_;try go_frame
   refine rgTake 9 (some 59) hHeld _ ?_;try go_frame
   refine rgTake 10 (some 60) hHeld _ ?_;try go_frame
   refine rgTake 11 (some 61) hHeld _ ?_;try go_frame
   refine rgTake 12 (some 18) hHeld _ ?_;try go_frame
   refine rgTake 13 (some 19) hHeld _ ?_;try go_frame
   refine rgTake 14 (some 20) hHeld _ ?_;try go_frame
   refine wpAnyH_done (by kernel_rfl) ?_ _
   have HST:=Lib.hid (And.intro (own_below HO4.out.1 bq (Nat.le_refl _)) (below_step bq HO4.out.2))
   clear bq s0 t0 t1 t2 t3 t4 t5 t6 t7 v0 v1 v2 hk0 hHeld
   go_wp2
   go_loopw [16,17,21] (fun o pv jv wr=> ∃(j p:Nat) (es:List Ent),j≤cn∧jv= .int .i64 j∧pv= .int .i64 p∧Hid (itE (gE (L.map RM.d) b L.length) (itR L[k].d n j) hd=some p)∧Hid (es.map tri=((((k:Nat):Int),i,e)::itX (ixE (L.map RM.d) b L.length f) (endE (L.map RM.d) b L.length) (itR L[k].d n j) hd).map triN)∧Hid ((es.map Ent.path).head?=some path)∧Hid (∀x∈es,x.path.size≤1000)∧Hid (es.length≤1+j*mxE f)∧wr.ownsRow W3.heap.size 49 4 o es.length (entsCells es)∧Below W3.heap.size W3 wr) (fun _ _ jv _=> cn - (intOf jv).toNat)
   case atStart=> exact ⟨0,_, [⟨path,k,i,e⟩],Nat.zero_le _,rfl,rfl,Lib.hid rfl,Lib.hid rfl,Lib.hid rfl,Lib.hid (fun x hx=> by rw [List.mem_singleton.1 hx];show path.size≤1000;omega),Lib.hid (by simp),HST.out.1,HST.out.2⟩
   case round=>
    obtain ⟨j,p,es,hj,rfl,rfl,HIE,HES,HHD,HSZ,HLN,hown,hbl⟩:=hrel
    have hsz:=hbl.size
    have s0:wr.cell? ⟨w.heap.size,0,none⟩=some (.slice (some ⟨b0,off,none⟩) L.length c):=(KD.out.below hbl).cell 0 rfl
    obtain ⟨⟨t0,t1,t2,t3,t4,t5,t6,t7⟩, -⟩:=(KR.out.below hbl).c8
    obtain ⟨⟨v0,v1,v2⟩, -⟩:=(KX.out.below hbl).c3
    have HB:=Lib.hid (And.intro hbl (And.intro (below_step hbl H3.out) hown))
    clear hbl hown
    by_cases hlt:j < cn
    ·obtain ⟨p',hp1,hp2⟩:=HNX.out j p hlt HIE.out
     have hpl:=HPL.out j p hlt HIE.out
     obtain ⟨q,hq,hqk⟩:=HQ.out j hlt
     have hI:=HIT.out j hlt
     have hS:=HSP.out j hlt
     have hsb:=HSB.out j (by omega)
     rw [hq] at hI hp1
     have hR:=fun (pt:ByteArray) (hpt:pt.size+14*(q+1)≤1000)=> HRB.out q hqk p p' hpl hp1 pt hpt
     have HI:=Lib.hid hI
     have HS:=Lib.hid hS
     have HR:=Lib.hid hR
     have HIX:=Lib.hid (show itX (ixE (L.map RM.d) b L.length f) (endE (L.map RM.d) b L.length) (itR L[k].d n (j+1)) hd=itX (ixE (L.map RM.d) b L.length f) (endE (L.map RM.d) b L.length) (itR L[k].d n j) hd++ixE (L.map RM.d) b L.length f q p by rw [itR_succ,itX_snoc,itE_foldl gE_end _ _ _ HIE.out,hq])
     have HP2:=Lib.hid hp2
     have HXL:=Lib.hid (ixE_len (b:=b) HV.out L.length f (q:Int) p)
     clear hI hS hR hq hp1 hp2
     generalize stepR L[k].d (j:Nat)=st at*
     have hss1:¬9223372036854775807 < path.size+1:=by omega
     have hss2:¬9223372036854775807 < path.size+1+st.size:=by omega
     have hps:(path++(⟨#[47]⟩:ByteArray)++st).size=path.size+1+st.size:=by rw [ByteArray.size_append,ByteArray.size_append];rfl
     have HPS:=Lib.hid hps
     have bq:=(Below.refl wr.heap.size wr).drew
     have bw:=HB.out.2.1.drew
     clear hps
     go_wp2_with fail
     refine wp_region_held_drew (S:=(fun w9=> w9.cell? ⟨w.heap.size,0,none⟩=some (.slice (some ⟨b0,off,none⟩) L.length c)∧w9.cell? ⟨W0.heap.size,0,none⟩=some (.string L[k].d.name)∧w9.cell? ⟨W0.heap.size,1,none⟩=some (.int .i64 L[k].d.kind)∧w9.cell? ⟨W0.heap.size,2,none⟩=some (.int .i64 L[k].d.size)∧w9.cell? ⟨W0.heap.size,3,none⟩=some (.bool L[k].d.little)∧w9.cell? ⟨W0.heap.size,4,none⟩=some (.slice A1 L[k].d.bytes.length c1)∧w9.cell? ⟨W0.heap.size,5,none⟩=some (.slice A2 L[k].d.names.length c2)∧w9.cell? ⟨W0.heap.size,6,none⟩=some (.slice A3 L[k].d.tags.length c3)∧w9.cell? ⟨W0.heap.size,7,none⟩=some (.slice (some ⟨bk,ok,none⟩) L[k].d.kids.length c4)∧w9.cell? ⟨w2.heap.size,0,none⟩=some (.int .i64 n))) (by kernel_rfl) ?_ (fun hHeld=> ?_)
     ·(try dsimp only);exact ⟨s0,t0,t1,t2,t3,t4,t5,t6,t7,v0⟩
     refine rgTake 0 (some 75) hHeld _ ?_;try go_frame
     refine rgTake 1 (some 76) hHeld _ ?_;try go_frame
     refine rgTake 2 (some 77) hHeld _ ?_;try go_frame
     refine rgTake 3 (some 78) hHeld _ ?_;try go_frame
     refine rgTake 4 (some 79) hHeld _ ?_;try go_frame
     refine rgTake 6 (some 81) hHeld _ ?_;try go_frame
     refine rgTake 7 (some 82) hHeld _ ?_;try go_frame
     refine rgTake 8 (some 83) hHeld _ ?_;try go_frame
     refine rgTake 9 (some 84) hHeld _ ?_;try go_frame
     refine rgTake 10 (some 85) hHeld _ ?_;try go_frame
     refine rgTake 11 (some 86) hHeld _ ?_;try go_frame
     refine rgStep 5 (fun K hK=> ?_)
     go_simp
     refine (HI.out _ bw).mono ?_;rintro e6 w6 ⟨rfl,bel⟩;have bq:=below_step bel bq;have bw:=below_step bel bw
     (try go_wp2_with fail)
     refine hK.out _ _ ?_ (fun hHeld=> ?_)
     ·(try dsimp only);exact ⟨cell_later bq s0,cell_later bq t0,cell_later bq t1,cell_later bq t2,cell_later bq t3,cell_later bq t4,cell_later bq t5,cell_later bq t6,cell_later bq t7,cell_later bq v0⟩
     clear hK K
     try go_frame
     refine rgStep 12 (fun K hK=> ?_)
     go_simp
     refine (HS.out _ bw).mono ?_;rintro e7 w7 ⟨rfl,bel⟩;have bq:=below_step bel bq;have bw:=below_step bel bw
     (try go_wp2_with fail)
     refine hK.out _ _ ?_ (fun hHeld=> ?_)
     ·(try dsimp only);exact ⟨cell_later bq s0,cell_later bq t0,cell_later bq t1,cell_later bq t2,cell_later bq t3,cell_later bq t4,cell_later bq t5,cell_later bq t6,cell_later bq t7,cell_later bq v0⟩
     clear hK K
     try go_frame
     refine rgTake 13 (some 88) hHeld _ ?_;try go_frame
     refine rgStep 14 (fun K hK=> ?_)
     go_simp
     refine (HR.out (path++(⟨#[47]⟩:ByteArray)++st) (by rw [HPS.out];omega) _ bw).mono ?_;rintro e8 w8 ⟨v8,es2,rfl,HE2, -,HZ2,own2,bel⟩;have hz78:=bq.size;have bq:=below_step bel bq;have bw:=below_step bel bw
     (try go_wp2_with fail)
     refine hK.out _ _ ?_ (fun hHeld=> ?_)
     ·(try dsimp only);exact ⟨cell_later bq s0,cell_later bq t0,cell_later bq t1,cell_later bq t2,cell_later bq t3,cell_later bq t4,cell_later bq t5,cell_later bq t6,cell_later bq t7,cell_later bq v0⟩
     clear hK K
     try go_frame
     refine rgTake 15 (some 74) hHeld _ ?_;try go_frame
     refine rgTake 16 (some 90) hHeld _ ?_;try go_frame
     refine rgTake 17 (some 91) hHeld _ ?_;try go_frame
     refine rgTake 18 (some 22) hHeld _ ?_;try go_frame
     refine rgTake 19 (some 23) hHeld _ ?_;try go_frame
     refine wpAnyH_done (by kernel_rfl) ?_ _
     have OWN:=Lib.hid (own_below HB.out.2.2 bq (Nat.le_refl _))
     have OWN2:=Lib.hid own2
     have HEL:=Lib.hid (show es2.length≤mxE f by
      have:=congrArg List.length HE2.out
      rw [List.length_map,List.length_map] at this
      have:=HXL.out
      omega)
     have BQ:=Lib.hid (below_step bq HB.out.1)
     have hmx:=HMX.out
     have hz8:W3.heap.size≤w8.heap.size:=by have:=bq.size;omega
     have HRM:=Lib.hid (show es.length≤5000000000∧es2.length≤5000000000 by
      have h1:=HLN.out
      have h2:=HEL.out
      have h3:j*mxE f≤40*105025641:=Nat.mul_le_mul (by omega) hmx
      omega)
     clear own2 bq bw s0 t0 t1 t2 t3 t4 t5 t6 t7 v0 v1 v2 hHeld hz78
     go_wp2_with (at_builtin;refine wpList_app _ rfl (.tmp 92) (.tmp 93) 44 rfl W3.heap.size 49 i0 (.agg #[.string ⟨#[]⟩, .int .i64 0, .int .i64 0, .int .i64 0]) 4 40 Tryd.underlying44 hi0 hz0 hz1 hz2 rfl (by decide) _ es.length _ rfl (by exact OWN.out) _ es2.length _ (entsCells es2) rfl (by exact Sl.of_own OWN2.out) (ents_one es2) (by have:=HRM.out;omega) (by have:=HRM.out;unfold maxLen;omega) (by exact hz8) ?_;intro v9 w9 own9 hg9 _)
     have hlt3:=OWN.out.lt
     rw [←entsCells_app] at own9
     have hbf:Below W3.heap.size W3 w9:=BQ.out.grown hg9 (by exact hz8) fun q e=> (hlt3 q e).1
     have H9:=Lib.hid (And.intro own9 hbf)
     clear own9 hg9 hbf hlt3
     go_wp2
     go_roundw
     case rel=> exact ⟨j+1,p',es++es2,by omega,by go_num,rfl,Lib.hid HP2.out,Lib.hid (by rw [List.map_append,HES.out,HE2.out,HIX.out,←List.map_append,List.cons_append]),Lib.hid (by rw [List.map_append];exact head_app HHD.out),Lib.hid (fun x hx=> by
      rcases List.mem_append.1 hx with h|h
      ·exact HSZ.out x h
      ·exact HZ2 x h),Lib.hid (by rw [List.length_append,Nat.succ_mul];have:=HLN.out;have:=HEL.out;omega),by simpa using H9.out.1,H9.out.2⟩
     case measure=> simp [intOf];omega
    ·obtain rfl:j=cn:=by omega
     go_wp2
     obtain ⟨Ao,co,rfl⟩:=own_slice HB.out.2.2
     exact bodyPost_ret (v:= .tuple #[.slice Ao es.length co, .int .i64 e]) (by simp [results,Tryd.results87,go_sem]) rfl ⟨_,es,rfl,Lib.hid (by rw [HES.out,HXF.out]),HHD.out,HSZ.out,own_base HB.out.2.2 (by omega),HB.out.2.1⟩
  ·rw [q7] at t1
   clear q7 h57
   go_wp2_with fail
   refine wp_region_held_drew (S:=(fun w9=> w9.cell? ⟨w.heap.size,0,none⟩=some (.slice (some ⟨b0,off,none⟩) L.length c)∧w9.cell? ⟨W0.heap.size,7,none⟩=some (.slice (some ⟨bk,ok,none⟩) L[k].d.kids.length c4)∧w9.cell? ⟨bk,ok,none⟩=some (.int .i64 q0))) (by kernel_rfl) ?_ (fun hHeld=> ?_)
   ·(try dsimp only);exact ⟨s0,t7,hk0⟩
   refine rgTake 0 (some 51) hHeld _ ?_;try go_frame
   refine rgTake 1 (some 52) hHeld _ ?_;try go_frame
   refine rgTake 2 (some 53) hHeld _ ?_;try go_frame
   refine rgTake 3 (some 54) hHeld _ ?_;try go_frame
   refine rgTake 4 (some 55) hHeld _ ?_;try go_frame
   refine rgTake 5 (some 56) hHeld _ ?_;try go_frame
   refine rgTake 6 (some 57) hHeld _ ?_;try go_frame
   refine rgStep 7 (fun K hK=> ?_)
   go_simp
   refine (HIN.out _ (below_step bq (below_step HO4.out.2 H3.out))).mono ?_;rintro e3 w5 ⟨rfl,bel⟩;have bq:=below_step bel bq
   (try go_wp2_with fail)
   refine hK.out _ _ ?_ (fun hHeld=> ?_)
   ·(try dsimp only);exact ⟨cell_later bq s0,cell_later bq t7,cell_later bq hk0⟩
   clear hK K
   try go_frame
   refine rgTake 8 (some 50) hHeld _ ?_;try go_frame
   refine rgTake 9 (some 59) hHeld _ ?_;try go_frame
   refine rgTake 10 (some 60) hHeld _ ?_;try go_frame
   refine rgTake 11 (some 61) hHeld _ ?_;try go_frame
   refine rgTake 12 (some 18) hHeld _ ?_;try go_frame
   refine rgTake 13 (some 19) hHeld _ ?_;try go_frame
   refine rgTake 14 (some 20) hHeld _ ?_;try go_frame
   refine wpAnyH_done (by kernel_rfl) ?_ _
   have HST:=Lib.hid (And.intro (own_below HO4.out.1 bq (Nat.le_refl _)) (below_step bq HO4.out.2))
   clear bq s0 t0 t1 t2 t3 t4 t5 t6 t7 v0 v1 v2 hk0 hHeld
   go_wp2
   go_loopw [16,17,21] (fun o pv jv wr=> ∃(j p:Nat) (es:List Ent),j≤cn∧jv= .int .i64 j∧pv= .int .i64 p∧Hid (itE (gE (L.map RM.d) b L.length) (itR L[k].d n j) hd=some p)∧Hid (es.map tri=((((k:Nat):Int),i,e)::itX (ixE (L.map RM.d) b L.length f) (endE (L.map RM.d) b L.length) (itR L[k].d n j) hd).map triN)∧Hid ((es.map Ent.path).head?=some path)∧Hid (∀x∈es,x.path.size≤1000)∧Hid (es.length≤1+j*mxE f)∧wr.ownsRow W3.heap.size 49 4 o es.length (entsCells es)∧Below W3.heap.size W3 wr) (fun _ _ jv _=> cn - (intOf jv).toNat)
   case atStart=> exact ⟨0,_, [⟨path,k,i,e⟩],Nat.zero_le _,rfl,rfl,Lib.hid rfl,Lib.hid rfl,Lib.hid rfl,Lib.hid (fun x hx=> by rw [List.mem_singleton.1 hx];show path.size≤1000;omega),Lib.hid (by simp),HST.out.1,HST.out.2⟩
   case round=>
    obtain ⟨j,p,es,hj,rfl,rfl,HIE,HES,HHD,HSZ,HLN,hown,hbl⟩:=hrel
    have hsz:=hbl.size
    have s0:wr.cell? ⟨w.heap.size,0,none⟩=some (.slice (some ⟨b0,off,none⟩) L.length c):=(KD.out.below hbl).cell 0 rfl
    obtain ⟨⟨t0,t1,t2,t3,t4,t5,t6,t7⟩, -⟩:=(KR.out.below hbl).c8
    obtain ⟨⟨v0,v1,v2⟩, -⟩:=(KX.out.below hbl).c3
    have HB:=Lib.hid (And.intro hbl (And.intro (below_step hbl H3.out) hown))
    clear hbl hown
    by_cases hlt:j < cn
    ·obtain ⟨p',hp1,hp2⟩:=HNX.out j p hlt HIE.out
     have hpl:=HPL.out j p hlt HIE.out
     obtain ⟨q,hq,hqk⟩:=HQ.out j hlt
     have hI:=HIT.out j hlt
     have hS:=HSP.out j hlt
     have hsb:=HSB.out j (by omega)
     rw [hq] at hI hp1
     have hR:=fun (pt:ByteArray) (hpt:pt.size+14*(q+1)≤1000)=> HRB.out q hqk p p' hpl hp1 pt hpt
     have HI:=Lib.hid hI
     have HS:=Lib.hid hS
     have HR:=Lib.hid hR
     have HIX:=Lib.hid (show itX (ixE (L.map RM.d) b L.length f) (endE (L.map RM.d) b L.length) (itR L[k].d n (j+1)) hd=itX (ixE (L.map RM.d) b L.length f) (endE (L.map RM.d) b L.length) (itR L[k].d n j) hd++ixE (L.map RM.d) b L.length f q p by rw [itR_succ,itX_snoc,itE_foldl gE_end _ _ _ HIE.out,hq])
     have HP2:=Lib.hid hp2
     have HXL:=Lib.hid (ixE_len (b:=b) HV.out L.length f (q:Int) p)
     clear hI hS hR hq hp1 hp2
     generalize stepR L[k].d (j:Nat)=st at*
     have hss1:¬9223372036854775807 < path.size+1:=by omega
     have hss2:¬9223372036854775807 < path.size+1+st.size:=by omega
     have hps:(path++(⟨#[47]⟩:ByteArray)++st).size=path.size+1+st.size:=by rw [ByteArray.size_append,ByteArray.size_append];rfl
     have HPS:=Lib.hid hps
     have bq:=(Below.refl wr.heap.size wr).drew
     have bw:=HB.out.2.1.drew
     clear hps
     go_wp2_with fail
     refine wp_region_held_drew (S:=(fun w9=> w9.cell? ⟨w.heap.size,0,none⟩=some (.slice (some ⟨b0,off,none⟩) L.length c)∧w9.cell? ⟨W0.heap.size,0,none⟩=some (.string L[k].d.name)∧w9.cell? ⟨W0.heap.size,1,none⟩=some (.int .i64 L[k].d.kind)∧w9.cell? ⟨W0.heap.size,2,none⟩=some (.int .i64 L[k].d.size)∧w9.cell? ⟨W0.heap.size,3,none⟩=some (.bool L[k].d.little)∧w9.cell? ⟨W0.heap.size,4,none⟩=some (.slice A1 L[k].d.bytes.length c1)∧w9.cell? ⟨W0.heap.size,5,none⟩=some (.slice A2 L[k].d.names.length c2)∧w9.cell? ⟨W0.heap.size,6,none⟩=some (.slice A3 L[k].d.tags.length c3)∧w9.cell? ⟨W0.heap.size,7,none⟩=some (.slice (some ⟨bk,ok,none⟩) L[k].d.kids.length c4)∧w9.cell? ⟨w2.heap.size,0,none⟩=some (.int .i64 n))) (by kernel_rfl) ?_ (fun hHeld=> ?_)
     ·(try dsimp only);exact ⟨s0,t0,t1,t2,t3,t4,t5,t6,t7,v0⟩
     refine rgTake 0 (some 75) hHeld _ ?_;try go_frame
     refine rgTake 1 (some 76) hHeld _ ?_;try go_frame
     refine rgTake 2 (some 77) hHeld _ ?_;try go_frame
     refine rgTake 3 (some 78) hHeld _ ?_;try go_frame
     refine rgTake 4 (some 79) hHeld _ ?_;try go_frame
     refine rgTake 6 (some 81) hHeld _ ?_;try go_frame
     refine rgTake 7 (some 82) hHeld _ ?_;try go_frame
     refine rgTake 8 (some 83) hHeld _ ?_;try go_frame
     refine rgTake 9 (some 84) hHeld _ ?_;try go_frame
     refine rgTake 10 (some 85) hHeld _ ?_;try go_frame
     refine rgTake 11 (some 86) hHeld _ ?_;try go_frame
     refine rgStep 5 (fun K hK=> ?_)
     go_simp
     refine (HI.out _ bw).mono ?_;rintro e6 w6 ⟨rfl,bel⟩;have bq:=below_step bel bq;have bw:=below_step bel bw
     (try go_wp2_with fail)
     refine hK.out _ _ ?_ (fun hHeld=> ?_)
     ·(try dsimp only);exact ⟨cell_later bq s0,cell_later bq t0,cell_later bq t1,cell_later bq t2,cell_later bq t3,cell_later bq t4,cell_later bq t5,cell_later bq t6,cell_later bq t7,cell_later bq v0⟩
     clear hK K
     try go_frame
     refine rgStep 12 (fun K hK=> ?_)
     go_simp
     refine (HS.out _ bw).mono ?_;rintro e7 w7 ⟨rfl,bel⟩;have bq:=below_step bel bq;have bw:=below_step bel bw
     (try go_wp2_with fail)
     refine hK.out _ _ ?_ (fun hHeld=> ?_)
     ·(try dsimp only);exact ⟨cell_later bq s0,cell_later bq t0,cell_later bq t1,cell_later bq t2,cell_later bq t3,cell_later bq t4,cell_later bq t5,cell_later bq t6,cell_later bq t7,cell_later bq v0⟩
     clear hK K
     try go_frame
     refine rgTake 13 (some 88) hHeld _ ?_;try go_frame
     refine rgStep 14 (fun K hK=> ?_)
     go_simp
     refine (HR.out (path++(⟨#[47]⟩:ByteArray)++st) (by rw [HPS.out];omega) _ bw).mono ?_;rintro e8 w8 ⟨v8,es2,rfl,HE2, -,HZ2,own2,bel⟩;have hz78:=bq.size;have bq:=below_step bel bq;have bw:=below_step bel bw
     (try go_wp2_with fail)
     refine hK.out _ _ ?_ (fun hHeld=> ?_)
     ·(try dsimp only);exact ⟨cell_later bq s0,cell_later bq t0,cell_later bq t1,cell_later bq t2,cell_later bq t3,cell_later bq t4,cell_later bq t5,cell_later bq t6,cell_later bq t7,cell_later bq v0⟩
     clear hK K
     try go_frame
     refine rgTake 15 (some 74) hHeld _ ?_;try go_frame
     refine rgTake 16 (some 90) hHeld _ ?_;try go_frame
     refine rgTake 17 (some 91) hHeld _ ?_;try go_frame
     refine rgTake 18 (some 22) hHeld _ ?_;try go_frame
     refine rgTake 19 (some 23) hHeld _ ?_;try go_frame
     refine wpAnyH_done (by kernel_rfl) ?_ _
     have OWN:=Lib.hid (own_below HB.out.2.2 bq (Nat.le_refl _))
     have OWN2:=Lib.hid own2
     have HEL:=Lib.hid (show es2.length≤mxE f by
      have:=congrArg List.length HE2.out
      rw [List.length_map,List.length_map] at this
      have:=HXL.out
      omega)
     have BQ:=Lib.hid (below_step bq HB.out.1)
     have hmx:=HMX.out
     have hz8:W3.heap.size≤w8.heap.size:=by have:=bq.size;omega
     have HRM:=Lib.hid (show es.length≤5000000000∧es2.length≤5000000000 by
      have h1:=HLN.out
      have h2:=HEL.out
      have h3:j*mxE f≤40*105025641:=Nat.mul_le_mul (by omega) hmx
      omega)
     clear own2 bq bw s0 t0 t1 t2 t3 t4 t5 t6 t7 v0 v1 v2 hHeld hz78
     go_wp2_with (at_builtin;refine wpList_app _ rfl (.tmp 92) (.tmp 93) 44 rfl W3.heap.size 49 i0 (.agg #[.string ⟨#[]⟩, .int .i64 0, .int .i64 0, .int .i64 0]) 4 40 Tryd.underlying44 hi0 hz0 hz1 hz2 rfl (by decide) _ es.length _ rfl (by exact OWN.out) _ es2.length _ (entsCells es2) rfl (by exact Sl.of_own OWN2.out) (ents_one es2) (by have:=HRM.out;omega) (by have:=HRM.out;unfold maxLen;omega) (by exact hz8) ?_;intro v9 w9 own9 hg9 _)
     have hlt3:=OWN.out.lt
     rw [←entsCells_app] at own9
     have hbf:Below W3.heap.size W3 w9:=BQ.out.grown hg9 (by exact hz8) fun q e=> (hlt3 q e).1
     have H9:=Lib.hid (And.intro own9 hbf)
     clear own9 hg9 hbf hlt3
     go_wp2
     go_roundw
     case rel=> exact ⟨j+1,p',es++es2,by omega,by go_num,rfl,Lib.hid HP2.out,Lib.hid (by rw [List.map_append,HES.out,HE2.out,HIX.out,←List.map_append,List.cons_append]),Lib.hid (by rw [List.map_append];exact head_app HHD.out),Lib.hid (fun x hx=> by
      rcases List.mem_append.1 hx with h|h
      ·exact HSZ.out x h
      ·exact HZ2 x h),Lib.hid (by rw [List.length_append,Nat.succ_mul];have:=HLN.out;have:=HEL.out;omega),by simpa using H9.out.1,H9.out.2⟩
     case measure=> simp [intOf];omega
    ·obtain rfl:j=cn:=by omega
     go_wp2
     obtain ⟨Ao,co,rfl⟩:=own_slice HB.out.2.2
     exact bodyPost_ret (v:= .tuple #[.slice Ao es.length co, .int .i64 e]) (by simp [results,Tryd.results87,go_sem]) rfl ⟨_,es,rfl,Lib.hid (by rw [HES.out,HXF.out]),HHD.out,HSZ.out,own_base HB.out.2.2 (by omega),HB.out.2.1⟩
 ·have hn5:¬L[k].d.kind=5:=fun h=> h57 (.inl h)
  have hn7:¬L[k].d.kind=7:=fun h=> h57 (.inr h)
  have HST:=Lib.hid HO4.out
  by_cases h8:L[k].d.kind=8
  ·have hhd:=HH8.out h8
   rw [h8] at t1
   subst hhd
   clear h8 hn5 hn7 h57
   go_wp2
   go_loopw [16,17,21] (fun o pv jv wr=> ∃(j p:Nat) (es:List Ent),j≤cn∧jv= .int .i64 j∧pv= .int .i64 p∧Hid (itE (gE (L.map RM.d) b L.length) (itR L[k].d n j) (i+1)=some p)∧Hid (es.map tri=((((k:Nat):Int),i,e)::itX (ixE (L.map RM.d) b L.length f) (endE (L.map RM.d) b L.length) (itR L[k].d n j) (i+1)).map triN)∧Hid ((es.map Ent.path).head?=some path)∧Hid (∀x∈es,x.path.size≤1000)∧Hid (es.length≤1+j*mxE f)∧wr.ownsRow W3.heap.size 49 4 o es.length (entsCells es)∧Below W3.heap.size W3 wr) (fun _ _ jv _=> cn - (intOf jv).toNat)
   case atStart=> exact ⟨0,_, [⟨path,k,i,e⟩],Nat.zero_le _,rfl,rfl,Lib.hid rfl,Lib.hid rfl,Lib.hid rfl,Lib.hid (fun x hx=> by rw [List.mem_singleton.1 hx];show path.size≤1000;omega),Lib.hid (by simp),HST.out.1,HST.out.2⟩
   case round=>
    obtain ⟨j,p,es,hj,rfl,rfl,HIE,HES,HHD,HSZ,HLN,hown,hbl⟩:=hrel
    have hsz:=hbl.size
    have s0:wr.cell? ⟨w.heap.size,0,none⟩=some (.slice (some ⟨b0,off,none⟩) L.length c):=(KD.out.below hbl).cell 0 rfl
    obtain ⟨⟨t0,t1,t2,t3,t4,t5,t6,t7⟩, -⟩:=(KR.out.below hbl).c8
    obtain ⟨⟨v0,v1,v2⟩, -⟩:=(KX.out.below hbl).c3
    have HB:=Lib.hid (And.intro hbl (And.intro (below_step hbl H3.out) hown))
    clear hbl hown
    by_cases hlt:j < cn
    ·obtain ⟨p',hp1,hp2⟩:=HNX.out j p hlt HIE.out
     have hpl:=HPL.out j p hlt HIE.out
     obtain ⟨q,hq,hqk⟩:=HQ.out j hlt
     have hI:=HIT.out j hlt
     have hS:=HSP.out j hlt
     have hsb:=HSB.out j (by omega)
     rw [hq] at hI hp1
     have hR:=fun (pt:ByteArray) (hpt:pt.size+14*(q+1)≤1000)=> HRB.out q hqk p p' hpl hp1 pt hpt
     have HI:=Lib.hid hI
     have HS:=Lib.hid hS
     have HR:=Lib.hid hR
     have HIX:=Lib.hid (show itX (ixE (L.map RM.d) b L.length f) (endE (L.map RM.d) b L.length) (itR L[k].d n (j+1)) (i+1)=itX (ixE (L.map RM.d) b L.length f) (endE (L.map RM.d) b L.length) (itR L[k].d n j) (i+1)++ixE (L.map RM.d) b L.length f q p by rw [itR_succ,itX_snoc,itE_foldl gE_end _ _ _ HIE.out,hq])
     have HP2:=Lib.hid hp2
     have HXL:=Lib.hid (ixE_len (b:=b) HV.out L.length f (q:Int) p)
     clear hI hS hR hq hp1 hp2
     generalize stepR L[k].d (j:Nat)=st at*
     have hss1:¬9223372036854775807 < path.size+1:=by omega
     have hss2:¬9223372036854775807 < path.size+1+st.size:=by omega
     have hps:(path++(⟨#[47]⟩:ByteArray)++st).size=path.size+1+st.size:=by rw [ByteArray.size_append,ByteArray.size_append];rfl
     have HPS:=Lib.hid hps
     have bq:=(Below.refl wr.heap.size wr).drew
     have bw:=HB.out.2.1.drew
     clear hps
     go_wp2_with fail
     refine wp_region_held_drew (S:=(fun w9=> w9.cell? ⟨w.heap.size,0,none⟩=some (.slice (some ⟨b0,off,none⟩) L.length c)∧w9.cell? ⟨W0.heap.size,0,none⟩=some (.string L[k].d.name)∧w9.cell? ⟨W0.heap.size,1,none⟩=some (.int .i64 L[k].d.kind)∧w9.cell? ⟨W0.heap.size,2,none⟩=some (.int .i64 L[k].d.size)∧w9.cell? ⟨W0.heap.size,3,none⟩=some (.bool L[k].d.little)∧w9.cell? ⟨W0.heap.size,4,none⟩=some (.slice A1 L[k].d.bytes.length c1)∧w9.cell? ⟨W0.heap.size,5,none⟩=some (.slice A2 L[k].d.names.length c2)∧w9.cell? ⟨W0.heap.size,6,none⟩=some (.slice A3 L[k].d.tags.length c3)∧w9.cell? ⟨W0.heap.size,7,none⟩=some (.slice A4 L[k].d.kids.length c4)∧w9.cell? ⟨w2.heap.size,0,none⟩=some (.int .i64 n))) (by kernel_rfl) ?_ (fun hHeld=> ?_)
     ·(try dsimp only);exact ⟨s0,t0,t1,t2,t3,t4,t5,t6,t7,v0⟩
     refine rgTake 0 (some 75) hHeld _ ?_;try go_frame
     refine rgTake 1 (some 76) hHeld _ ?_;try go_frame
     refine rgTake 2 (some 77) hHeld _ ?_;try go_frame
     refine rgTake 3 (some 78) hHeld _ ?_;try go_frame
     refine rgTake 4 (some 79) hHeld _ ?_;try go_frame
     refine rgTake 6 (some 81) hHeld _ ?_;try go_frame
     refine rgTake 7 (some 82) hHeld _ ?_;try go_frame
     refine rgTake 8 (some 83) hHeld _ ?_;try go_frame
     refine rgTake 9 (some 84) hHeld _ ?_;try go_frame
     refine rgTake 10 (some 85) hHeld _ ?_;try go_frame
     refine rgTake 11 (some 86) hHeld _ ?_;try go_frame
     refine rgStep 5 (fun K hK=> ?_)
     go_simp
     refine (HI.out _ bw).mono ?_;rintro e6 w6 ⟨rfl,bel⟩;have bq:=below_step bel bq;have bw:=below_step bel bw
     (try go_wp2_with fail)
     refine hK.out _ _ ?_ (fun hHeld=> ?_)
     ·(try dsimp only);exact ⟨cell_later bq s0,cell_later bq t0,cell_later bq t1,cell_later bq t2,cell_later bq t3,cell_later bq t4,cell_later bq t5,cell_later bq t6,cell_later bq t7,cell_later bq v0⟩
     clear hK K
     try go_frame
     refine rgStep 12 (fun K hK=> ?_)
     go_simp
     refine (HS.out _ bw).mono ?_;rintro e7 w7 ⟨rfl,bel⟩;have bq:=below_step bel bq;have bw:=below_step bel bw
     (try go_wp2_with fail)
     refine hK.out _ _ ?_ (fun hHeld=> ?_)
     ·(try dsimp only);exact ⟨cell_later bq s0,cell_later bq t0,cell_later bq t1,cell_later bq t2,cell_later bq t3,cell_later bq t4,cell_later bq t5,cell_later bq t6,cell_later bq t7,cell_later bq v0⟩
     clear hK K
     try go_frame
     refine rgTake 13 (some 88) hHeld _ ?_;try go_frame
     refine rgStep 14 (fun K hK=> ?_)
     go_simp
     refine (HR.out (path++(⟨#[47]⟩:ByteArray)++st) (by rw [HPS.out];omega) _ bw).mono ?_;rintro e8 w8 ⟨v8,es2,rfl,HE2, -,HZ2,own2,bel⟩;have hz78:=bq.size;have bq:=below_step bel bq;have bw:=below_step bel bw
     (try go_wp2_with fail)
     refine hK.out _ _ ?_ (fun hHeld=> ?_)
     ·(try dsimp only);exact ⟨cell_later bq s0,cell_later bq t0,cell_later bq t1,cell_later bq t2,cell_later bq t3,cell_later bq t4,cell_later bq t5,cell_later bq t6,cell_later bq t7,cell_later bq v0⟩
     clear hK K
     try go_frame
     refine rgTake 15 (some 74) hHeld _ ?_;try go_frame
     refine rgTake 16 (some 90) hHeld _ ?_;try go_frame
     refine rgTake 17 (some 91) hHeld _ ?_;try go_frame
     refine rgTake 18 (some 22) hHeld _ ?_;try go_frame
     refine rgTake 19 (some 23) hHeld _ ?_;try go_frame
     refine wpAnyH_done (by kernel_rfl) ?_ _
     have OWN:=Lib.hid (own_below HB.out.2.2 bq (Nat.le_refl _))
     have OWN2:=Lib.hid own2
     have HEL:=Lib.hid (show es2.length≤mxE f by
      have:=congrArg List.length HE2.out
      rw [List.length_map,List.length_map] at this
      have:=HXL.out
      omega)
     have BQ:=Lib.hid (below_step bq HB.out.1)
     have hmx:=HMX.out
     have hz8:W3.heap.size≤w8.heap.size:=by have:=bq.size;omega
     have HRM:=Lib.hid (show es.length≤5000000000∧es2.length≤5000000000 by
      have h1:=HLN.out
      have h2:=HEL.out
      have h3:j*mxE f≤40*105025641:=Nat.mul_le_mul (by omega) hmx
      omega)
     clear own2 bq bw s0 t0 t1 t2 t3 t4 t5 t6 t7 v0 v1 v2 hHeld hz78
     go_wp2_with (at_builtin;refine wpList_app _ rfl (.tmp 92) (.tmp 93) 44 rfl W3.heap.size 49 i0 (.agg #[.string ⟨#[]⟩, .int .i64 0, .int .i64 0, .int .i64 0]) 4 40 Tryd.underlying44 hi0 hz0 hz1 hz2 rfl (by decide) _ es.length _ rfl (by exact OWN.out) _ es2.length _ (entsCells es2) rfl (by exact Sl.of_own OWN2.out) (ents_one es2) (by have:=HRM.out;omega) (by have:=HRM.out;unfold maxLen;omega) (by exact hz8) ?_;intro v9 w9 own9 hg9 _)
     have hlt3:=OWN.out.lt
     rw [←entsCells_app] at own9
     have hbf:Below W3.heap.size W3 w9:=BQ.out.grown hg9 (by exact hz8) fun q e=> (hlt3 q e).1
     have H9:=Lib.hid (And.intro own9 hbf)
     clear own9 hg9 hbf hlt3
     go_wp2
     go_roundw
     case rel=> exact ⟨j+1,p',es++es2,by omega,by go_num,rfl,Lib.hid HP2.out,Lib.hid (by rw [List.map_append,HES.out,HE2.out,HIX.out,←List.map_append,List.cons_append]),Lib.hid (by rw [List.map_append];exact head_app HHD.out),Lib.hid (fun x hx=> by
      rcases List.mem_append.1 hx with h|h
      ·exact HSZ.out x h
      ·exact HZ2 x h),Lib.hid (by rw [List.length_append,Nat.succ_mul];have:=HLN.out;have:=HEL.out;omega),by simpa using H9.out.1,H9.out.2⟩
     case measure=> simp [intOf];omega
    ·obtain rfl:j=cn:=by omega
     go_wp2
     obtain ⟨Ao,co,rfl⟩:=own_slice HB.out.2.2
     exact bodyPost_ret (v:= .tuple #[.slice Ao es.length co, .int .i64 e]) (by simp [results,Tryd.results87,go_sem]) rfl ⟨_,es,rfl,Lib.hid (by rw [HES.out,HXF.out]),HHD.out,HSZ.out,own_base HB.out.2.2 (by omega),HB.out.2.1⟩
  ·have hhd:=HHN.out h57 h8
   have hhd:=hhd.symm
   subst hhd
   have hb5:(L[k].d.kind==5)=false:=by simp [hn5]
   have hb7:(L[k].d.kind==7)=false:=by simp [hn7]
   have hb8:(L[k].d.kind==8)=false:=by simp [h8]
   clear h8 hn5 hn7 h57
   go_wp2
   go_loopw [16,17,21] (fun o pv jv wr=> ∃(j p:Nat) (es:List Ent),j≤cn∧jv= .int .i64 j∧pv= .int .i64 p∧Hid (itE (gE (L.map RM.d) b L.length) (itR L[k].d n j) i=some p)∧Hid (es.map tri=((((k:Nat):Int),i,e)::itX (ixE (L.map RM.d) b L.length f) (endE (L.map RM.d) b L.length) (itR L[k].d n j) i).map triN)∧Hid ((es.map Ent.path).head?=some path)∧Hid (∀x∈es,x.path.size≤1000)∧Hid (es.length≤1+j*mxE f)∧wr.ownsRow W3.heap.size 49 4 o es.length (entsCells es)∧Below W3.heap.size W3 wr) (fun _ _ jv _=> cn - (intOf jv).toNat)
   case atStart=> exact ⟨0,_, [⟨path,k,i,e⟩],Nat.zero_le _,rfl,rfl,Lib.hid rfl,Lib.hid rfl,Lib.hid rfl,Lib.hid (fun x hx=> by rw [List.mem_singleton.1 hx];show path.size≤1000;omega),Lib.hid (by simp),HST.out.1,HST.out.2⟩
   case round=>
    obtain ⟨j,p,es,hj,rfl,rfl,HIE,HES,HHD,HSZ,HLN,hown,hbl⟩:=hrel
    have hsz:=hbl.size
    have s0:wr.cell? ⟨w.heap.size,0,none⟩=some (.slice (some ⟨b0,off,none⟩) L.length c):=(KD.out.below hbl).cell 0 rfl
    obtain ⟨⟨t0,t1,t2,t3,t4,t5,t6,t7⟩, -⟩:=(KR.out.below hbl).c8
    obtain ⟨⟨v0,v1,v2⟩, -⟩:=(KX.out.below hbl).c3
    have HB:=Lib.hid (And.intro hbl (And.intro (below_step hbl H3.out) hown))
    clear hbl hown
    by_cases hlt:j < cn
    ·obtain ⟨p',hp1,hp2⟩:=HNX.out j p hlt HIE.out
     have hpl:=HPL.out j p hlt HIE.out
     obtain ⟨q,hq,hqk⟩:=HQ.out j hlt
     have hI:=HIT.out j hlt
     have hS:=HSP.out j hlt
     have hsb:=HSB.out j (by omega)
     rw [hq] at hI hp1
     have hR:=fun (pt:ByteArray) (hpt:pt.size+14*(q+1)≤1000)=> HRB.out q hqk p p' hpl hp1 pt hpt
     have HI:=Lib.hid hI
     have HS:=Lib.hid hS
     have HR:=Lib.hid hR
     have HIX:=Lib.hid (show itX (ixE (L.map RM.d) b L.length f) (endE (L.map RM.d) b L.length) (itR L[k].d n (j+1)) i=itX (ixE (L.map RM.d) b L.length f) (endE (L.map RM.d) b L.length) (itR L[k].d n j) i++ixE (L.map RM.d) b L.length f q p by rw [itR_succ,itX_snoc,itE_foldl gE_end _ _ _ HIE.out,hq])
     have HP2:=Lib.hid hp2
     have HXL:=Lib.hid (ixE_len (b:=b) HV.out L.length f (q:Int) p)
     clear hI hS hR hq hp1 hp2
     generalize stepR L[k].d (j:Nat)=st at*
     have hss1:¬9223372036854775807 < path.size+1:=by omega
     have hss2:¬9223372036854775807 < path.size+1+st.size:=by omega
     have hps:(path++(⟨#[47]⟩:ByteArray)++st).size=path.size+1+st.size:=by rw [ByteArray.size_append,ByteArray.size_append];rfl
     have HPS:=Lib.hid hps
     have bq:=(Below.refl wr.heap.size wr).drew
     have bw:=HB.out.2.1.drew
     clear hps
     go_wp2_with fail
     refine wp_region_held_drew (S:=(fun w9=> w9.cell? ⟨w.heap.size,0,none⟩=some (.slice (some ⟨b0,off,none⟩) L.length c)∧w9.cell? ⟨W0.heap.size,0,none⟩=some (.string L[k].d.name)∧w9.cell? ⟨W0.heap.size,1,none⟩=some (.int .i64 L[k].d.kind)∧w9.cell? ⟨W0.heap.size,2,none⟩=some (.int .i64 L[k].d.size)∧w9.cell? ⟨W0.heap.size,3,none⟩=some (.bool L[k].d.little)∧w9.cell? ⟨W0.heap.size,4,none⟩=some (.slice A1 L[k].d.bytes.length c1)∧w9.cell? ⟨W0.heap.size,5,none⟩=some (.slice A2 L[k].d.names.length c2)∧w9.cell? ⟨W0.heap.size,6,none⟩=some (.slice A3 L[k].d.tags.length c3)∧w9.cell? ⟨W0.heap.size,7,none⟩=some (.slice A4 L[k].d.kids.length c4)∧w9.cell? ⟨w2.heap.size,0,none⟩=some (.int .i64 n))) (by kernel_rfl) ?_ (fun hHeld=> ?_)
     ·(try dsimp only);exact ⟨s0,t0,t1,t2,t3,t4,t5,t6,t7,v0⟩
     refine rgTake 0 (some 75) hHeld _ ?_;try go_frame
     refine rgTake 1 (some 76) hHeld _ ?_;try go_frame
     refine rgTake 2 (some 77) hHeld _ ?_;try go_frame
     refine rgTake 3 (some 78) hHeld _ ?_;try go_frame
     refine rgTake 4 (some 79) hHeld _ ?_;try go_frame
     refine rgTake 6 (some 81) hHeld _ ?_;try go_frame
     refine rgTake 7 (some 82) hHeld _ ?_;try go_frame
     refine rgTake 8 (some 83) hHeld _ ?_;try go_frame
     refine rgTake 9 (some 84) hHeld _ ?_;try go_frame
     refine rgTake 10 (some 85) hHeld _ ?_;try go_frame
     refine rgTake 11 (some 86) hHeld _ ?_;try go_frame
     refine rgStep 5 (fun K hK=> ?_)
     go_simp
     refine (HI.out _ bw).mono ?_;rintro e6 w6 ⟨rfl,bel⟩;have bq:=below_step bel bq;have bw:=below_step bel bw
     (try go_wp2_with fail)
     refine hK.out _ _ ?_ (fun hHeld=> ?_)
     ·(try dsimp only);exact ⟨cell_later bq s0,cell_later bq t0,cell_later bq t1,cell_later bq t2,cell_later bq t3,cell_later bq t4,cell_later bq t5,cell_later bq t6,cell_later bq t7,cell_later bq v0⟩
     clear hK K
     try go_frame
     refine rgStep 12 (fun K hK=> ?_)
     go_simp
     refine (HS.out _ bw).mono ?_;rintro e7 w7 ⟨rfl,bel⟩;have bq:=below_step bel bq;have bw:=below_step bel bw
     (try go_wp2_with fail)
     refine hK.out _ _ ?_ (fun hHeld=> ?_)
     ·(try dsimp only);exact ⟨cell_later bq s0,cell_later bq t0,cell_later bq t1,cell_later bq t2,cell_later bq t3,cell_later bq t4,cell_later bq t5,cell_later bq t6,cell_later bq t7,cell_later bq v0⟩
     clear hK K
     try go_frame
     refine rgTake 13 (some 88) hHeld _ ?_;try go_frame
     refine rgStep 14 (fun K hK=> ?_)
     go_simp
     refine (HR.out (path++(⟨#[47]⟩:ByteArray)++st) (by rw [HPS.out];omega) _ bw).mono ?_;rintro e8 w8 ⟨v8,es2,rfl,HE2, -,HZ2,own2,bel⟩;have hz78:=bq.size;have bq:=below_step bel bq;have bw:=below_step bel bw
     (try go_wp2_with fail)
     refine hK.out _ _ ?_ (fun hHeld=> ?_)
     ·(try dsimp only);exact ⟨cell_later bq s0,cell_later bq t0,cell_later bq t1,cell_later bq t2,cell_later bq t3,cell_later bq t4,cell_later bq t5,cell_later bq t6,cell_later bq t7,cell_later bq v0⟩
     clear hK K
     try go_frame
     refine rgTake 15 (some 74) hHeld _ ?_;try go_frame
     refine rgTake 16 (some 90) hHeld _ ?_;try go_frame
     refine rgTake 17 (some 91) hHeld _ ?_;try go_frame
     refine rgTake 18 (some 22) hHeld _ ?_;try go_frame
     refine rgTake 19 (some 23) hHeld _ ?_;try go_frame
     refine wpAnyH_done (by kernel_rfl) ?_ _
     have OWN:=Lib.hid (own_below HB.out.2.2 bq (Nat.le_refl _))
     have OWN2:=Lib.hid own2
     have HEL:=Lib.hid (show es2.length≤mxE f by
      have:=congrArg List.length HE2.out
      rw [List.length_map,List.length_map] at this
      have:=HXL.out
      omega)
     have BQ:=Lib.hid (below_step bq HB.out.1)
     have hmx:=HMX.out
     have hz8:W3.heap.size≤w8.heap.size:=by have:=bq.size;omega
     have HRM:=Lib.hid (show es.length≤5000000000∧es2.length≤5000000000 by
      have h1:=HLN.out
      have h2:=HEL.out
      have h3:j*mxE f≤40*105025641:=Nat.mul_le_mul (by omega) hmx
      omega)
     clear own2 bq bw s0 t0 t1 t2 t3 t4 t5 t6 t7 v0 v1 v2 hHeld hz78
     go_wp2_with (at_builtin;refine wpList_app _ rfl (.tmp 92) (.tmp 93) 44 rfl W3.heap.size 49 i0 (.agg #[.string ⟨#[]⟩, .int .i64 0, .int .i64 0, .int .i64 0]) 4 40 Tryd.underlying44 hi0 hz0 hz1 hz2 rfl (by decide) _ es.length _ rfl (by exact OWN.out) _ es2.length _ (entsCells es2) rfl (by exact Sl.of_own OWN2.out) (ents_one es2) (by have:=HRM.out;omega) (by have:=HRM.out;unfold maxLen;omega) (by exact hz8) ?_;intro v9 w9 own9 hg9 _)
     have hlt3:=OWN.out.lt
     rw [←entsCells_app] at own9
     have hbf:Below W3.heap.size W3 w9:=BQ.out.grown hg9 (by exact hz8) fun q e=> (hlt3 q e).1
     have H9:=Lib.hid (And.intro own9 hbf)
     clear own9 hg9 hbf hlt3
     go_wp2
     go_roundw
     case rel=> exact ⟨j+1,p',es++es2,by omega,by go_num,rfl,Lib.hid HP2.out,Lib.hid (by rw [List.map_append,HES.out,HE2.out,HIX.out,←List.map_append,List.cons_append]),Lib.hid (by rw [List.map_append];exact head_app HHD.out),Lib.hid (fun x hx=> by
      rcases List.mem_append.1 hx with h|h
      ·exact HSZ.out x h
      ·exact HZ2 x h),Lib.hid (by rw [List.length_append,Nat.succ_mul];have:=HLN.out;have:=HEL.out;omega),by simpa using H9.out.1,H9.out.2⟩
     case measure=> simp [intOf];omega
    ·obtain rfl:j=cn:=by omega
     go_wp2
     obtain ⟨Ao,co,rfl⟩:=own_slice HB.out.2.2
     exact bodyPost_ret (v:= .tuple #[.slice Ao es.length co, .int .i64 e]) (by simp [results,Tryd.results87,go_sem]) rfl ⟨_,es,rfl,Lib.hid (by rw [HES.out,HXF.out]),HHD.out,HSZ.out,own_base HB.out.2.2 (by omega),HB.out.2.1⟩
end Go.Proofs.YteldgdelmaeokaaDoor
namespace Go.Proofs.YteldgdelmaeokaaDoor
open Go.RowKit
def IxOk (D:List RuleD) (b:List UInt8) (es:List Ent):Prop:=es= []∨(∃n c,rdE D b D.length (D.length - 1:Nat) 0=some (n,c,b.length))∧es.map tri=(ixE D b D.length D.length (D.length - 1:Nat) 0).map triN∧(es.map Ent.path).head?=some ⟨#[]⟩∧∀x∈es,x.path.size≤1000
def BxE (D:List RuleD) (b:List UInt8) (w:World) (en:Ending) (w':World):Prop:=
 ∃(v:Value) (es:List Ent) (ok:Bool),en= .returned (.tuple #[v, .bool ok])∧Hid (IxOk D b es)∧w'.ownsRow w.heap.size 49 4 v es.length (entsCells es)∧Below w.heap.size w w'
set_option maxHeartbeats 4000000 in
set_option maxRecDepth 100000 in
theorem buildIndex_any (vD vb:Value) (L:List RM) (b:List UInt8) (B:Nat) (w:World) (h:SlD w B vD L) (hb:SlB w B vb b) (hB:B≤w.heap.size) (ok:∀r∈L,r.d.ok) (sm:∀r∈L,r.d.small 1048576) (hv:validD (L.map RM.d)=true) (h1:1≤L.length) (h6:L.length≤6) (hl:b.length≤400):
  Calls Tryd.prog 56 #[.agg #[vD],vb] w (BxE (L.map RM.d) b w):=by
 have hlm:(L.map RM.d).length=L.length:=List.length_map ..
 have hF:∀W,Below w.heap.size w W→Calls Tryd.prog 86 #[.agg #[vD],vb] W fun e w'=> e= .returned (.bool (fileE (L.map RM.d) b).isSome)∧Below W.heap.size W w':=fun W hw=>
  isFile_any vD vb L b B W (h.below (hw.mono hB)) (hb.below (hw.mono hB)) (by have:=hw.size;omega) ok sm hv h1 (by omega) hl
 have hT:∀W,Below w.heap.size w W→Calls Tryd.prog 36 #[.agg #[vD]] W fun e w'=> e= .returned (.int .i64 ((L.length - 1:Nat):Int))∧Below W.heap.size W w':=fun W hw=> rootS_any vD L B W (h.below (hw.mono hB)) h1 (by omega)
 have hBD:∀n c,rdE (L.map RM.d) b L.length (L.length - 1:Nat) 0=some (n,c,b.length)→∀W,Below w.heap.size w W→Calls Tryd.prog 87 #[.agg #[vD], .int .i64 ((L.length - 1:Nat):Int),vb, .int .i64 0, .string ⟨#[]⟩] W (BdE (ixE (L.map RM.d) b L.length L.length (L.length - 1:Nat) 0) b.length ⟨#[]⟩ W):=fun n c hr W hw=>
  l19Build_any L sm hv h6 (L.length - 1) (by omega) L.length (by omega) h6 vD vb b 0 ⟨#[]⟩ B W n c b.length (h.below (hw.mono hB)) (hb.below (hw.mono hB)) (by have:=hw.size;omega) (by omega) hl hr (by show 0+14*(L.length - 1+1)≤1000;omega)
 have hfe:fileE (L.map RM.d) b=(match rdE (L.map RM.d) b L.length (L.length - 1:Nat) 0 with|none=> none|some x=> if x.2.2 < b.length then none else some x):=by unfold fileE;rw [hlm];cases rdE (L.map RM.d) b L.length (L.length - 1:Nat) 0 <;> rfl
 have hle:∀n c e,rdE (L.map RM.d) b L.length (L.length - 1:Nat) 0=some (n,c,e)→e≤b.length:=fun n c e he=> (rdE_le _ _ _ _ _ _ he (by omega)).2
 have hix:∀es,IxOk (L.map RM.d) b es↔(es= []∨(∃n c,rdE (L.map RM.d) b L.length (L.length - 1:Nat) 0=some (n,c,b.length))∧es.map tri=(ixE (L.map RM.d) b L.length L.length (L.length - 1:Nat) 0).map triN∧(es.map Ent.path).head?=some ⟨#[]⟩∧∀x∈es,x.path.size≤1000):=fun es=> by unfold IxOk;rw [hlm]
 obtain ⟨A,c,rfl,hc,hm, -⟩:=h.open_
 obtain ⟨Ab,cb,rfl,hcb,hmb, -⟩:=hb.one
 have HF:=Lib.hid hF
 have HT:=Lib.hid hT
 have HBD:=Lib.hid hBD
 have HIX:=Lib.hid hix
 obtain ⟨W0,hW0⟩:∃W0,W0=w.alloc (.cells #[.slice A L.length c] 26):=⟨_,rfl⟩
 have hb0:Below w.heap.size w W0:=by rw [hW0];exact (Below.refl w.heap.size w).alloc (Nat.le_refl _) _
 have Kd:Blk W0 w.heap.size 26 #[.slice A L.length c]:=by rw [hW0];exact Blk.new w _ _
 have s0:W0.cell? ⟨w.heap.size,0,none⟩=some (.slice A L.length c):=Kd.cell 0 rfl
 have KD:=Lib.hid Kd
 have HB0:=Lib.hid hb0
 have hEM:=Lib.hid (fun W (hw:Below w.heap.size w W)=> (⟨own_base (own_empty W 49 4) hw.size,hw.alloc hw.size _⟩:(W.alloc (.cells #[] 49)).ownsRow w.heap.size 49 4 (.slice (some ⟨W.heap.size,0,none⟩) 0 0) 0 []∧Below w.heap.size w (W.alloc (.cells #[] 49))))
 clear hF hT hBD hix hb0 Kd h hb ok sm hv hlm
 cases hR:rdE (L.map RM.d) b L.length (L.length - 1:Nat) 0 with
 |none=>
  rw [hR] at hfe
  have hfe:fileE (L.map RM.d) b=none:=hfe
  rw [hfe] at HF
  clear hR hfe hle
  go_enter Tryd.func56,Tryd.ntmps56
  go_upto_region 1 with fail
  rw [←hW0]
  clear hW0
  go_wp2_with fail
  refine (HF.out _ HB0.out).mono ?_
  rintro e w1 ⟨rfl,bel⟩
  have HE:=Lib.hid (hEM.out _ (below_step bel HB0.out))
  have HIX2:=Lib.hid ((HIX.out []).2 (.inl rfl))
  clear bel
  go_wp2
  go_ret2
  exact ⟨_, [],false,rfl,HIX2,HE.out.1,HE.out.2⟩
 |some y=>
  obtain ⟨n,cn,e⟩:=y
  rw [hR] at hfe
  have hel:=hle n cn e hR
  by_cases hlt:e < b.length
  ·have hfe:fileE (L.map RM.d) b=none:=hfe.trans (if_pos hlt)
   rw [hfe] at HF
   clear hR hfe hle hel hlt
   go_enter Tryd.func56,Tryd.ntmps56
   go_upto_region 1 with fail
   rw [←hW0]
   clear hW0
   go_wp2_with fail
   refine (HF.out _ HB0.out).mono ?_
   rintro e w1 ⟨rfl,bel⟩
   have HE:=Lib.hid (hEM.out _ (below_step bel HB0.out))
   have HIX2:=Lib.hid ((HIX.out []).2 (.inl rfl))
   clear bel
   go_wp2
   go_ret2
   exact ⟨_, [],false,rfl,HIX2,HE.out.1,HE.out.2⟩
  ·have hfe:fileE (L.map RM.d) b=some (n,cn,e):=hfe.trans (if_neg hlt)
   rw [hfe] at HF
   obtain rfl:e=b.length:=by omega
   have HB2:=Lib.hid (HBD.out n cn hR)
   have HR:=Lib.hid hR
   clear hR hfe hle hel hlt
   go_enter Tryd.func56,Tryd.ntmps56
   go_upto_region 1 with fail
   rw [←hW0]
   clear hW0
   go_wp2_with fail
   refine (HF.out _ HB0.out).mono ?_
   rintro e w1 ⟨rfl,bel⟩
   have s0:w1.cell? ⟨w.heap.size,0,none⟩=some (.slice A L.length c):=(KD.out.below bel).cell 0 rfl
   have H1:=Lib.hid (And.intro bel (below_step bel HB0.out))
   have bq:=(Below.refl w1.heap.size w1).drew
   have bw:=H1.out.2.drew
   clear bel
   go_wp2_with fail
   refine wp_region_held_drew (S:=(fun w9=> w9.cell? ⟨w.heap.size,0,none⟩=some (.slice A L.length c))) (by kernel_rfl) ?_ (fun hHeld=> ?_)
   ·(try dsimp only);exact s0
   refine rgTake 0 (some 14) hHeld _ ?_;try go_frame
   refine rgTake 1 (some 15) hHeld _ ?_;try go_frame
   refine rgTake 3 (some 17) hHeld _ ?_;try go_frame
   refine rgStep 2 (fun K hK=> ?_)
   go_simp
   refine (HT.out _ bw).mono ?_;rintro e2 w2 ⟨rfl,bel⟩;have bq:=below_step bel bq;have bw:=below_step bel bw
   (try go_wp2_with fail)
   refine hK.out _ _ ?_ (fun hHeld=> ?_)
   ·(try dsimp only);exact cell_later bq s0
   clear hK K
   try go_frame
   refine rgStep 4 (fun K hK=> ?_)
   go_simp
   refine (HB2.out _ bw).mono ?_;rintro e3 w3 ⟨v,es,rfl,HES,hhd,hsz,hown,bel⟩;have hz23:=bw.size;have bq:=below_step bel bq;have bw:=below_step bel bw
   (try go_wp2_with fail)
   refine hK.out _ _ ?_ (fun hHeld=> ?_)
   ·(try dsimp only);exact cell_later bq s0
   clear hK K
   try go_frame
   refine rgTake 5 (some 13) hHeld _ ?_;try go_frame
   refine rgTake 6 (some 19) hHeld _ ?_;try go_frame
   refine rgTake 7 (some 20) hHeld _ ?_;try go_frame
   refine rgTake 8 (some 6) hHeld _ ?_;try go_frame
   refine rgTake 9 (some 7) hHeld _ ?_;try go_frame
   refine wpAnyH_done (by kernel_rfl) ?_ _
   have HF9:=Lib.hid (And.intro (own_base hown (by exact hz23)) bw)
   have HIX2:=Lib.hid ((HIX.out es).2 (.inr ⟨⟨n,cn,HR.out⟩,HES.out,hhd,hsz⟩))
   obtain ⟨Ao,co,rfl⟩:=own_slice HF9.out.1
   clear hown bw bq s0 hHeld hhd hsz
   go_wp2
   go_ret2
   exact ⟨_,es,true,rfl,HIX2,HF9.out.1,HF9.out.2⟩
end Go.Proofs.YteldgdelmaeokaaDoor
