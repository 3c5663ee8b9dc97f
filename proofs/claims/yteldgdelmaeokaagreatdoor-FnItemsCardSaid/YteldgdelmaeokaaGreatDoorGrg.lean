/- Out of EdR, ValEdM, ValRc, ValRm: the walks and plain laws that the claim needs. No condition but those that each theorem names. -/
import Derived.Test.YteldgdelmaeokaaGreatDoorGrd
import Derived.Laws.CopyOwn
import Derived.Test.YteldgdelmaeokaaGreatDoorGra
import Derived.WalkSpells
import Derived.WalkLawsBesides
import Derived.Deep.RegionHeld3
import Derived.Test.YteldgdelmaeokaaGreatDoorGf
set_option linter.unusedSimpArgs false
set_option linter.unusedVariables false
set_option maxHeartbeats 4000000
set_option maxRecDepth 100000
namespace Go.Proofs.YteldgdelmaeokaaGreatDoor
open Go.Proofs.Tryz Go.RowKit
def remV (i:Nat) (y:Zt):Zt:= .mk y.n y.b (y.items.take i++y.items.drop (i+1))
def Ib (D:List Zk) (at_:Int) (k:Int) (y:Zt):Option Zt:=
 if Xl D k 5 && Yv at_ 0 ((y.items.length:Int) - 1) then some (remV at_.toNat y) else none
theorem remC_no {D:List Zk} {at_:Int} {k:Int} {y:Zt} (h:(Xl D k 5 && Yv at_ 0 ((y.items.length:Int) - 1))=false):Ib D at_ k y=none:=by unfold Ib;rw [if_neg (by rw [h];exact Bool.false_ne_true)]
theorem remC_yes {D:List Zk} {at_:Int} {k:Int} {y:Zt} (h:(Xl D k 5 && Yv at_ 0 ((y.items.length:Int) - 1))=true):Ib D at_ k y=some (remV at_.toNat y):=by unfold Ib;rw [if_pos h]
theorem Vd.put2 {w W:World} {lo:Nat} {y p:VM} (hpo:p.own lo W) (hpn:p.bks.Nodup):∀{t:List Nat} {x:VM} {g o:Nat},Vd w lo g o x→x.sub t=some y→(∀k∈p.bks,k ∉ x.bks∨k∈y.bks)→g ∉ p.bks→
  (∀k,(k=g∨k∈x.bks)→k ∉ y.bks→W.heap[k]?=(Qq w (x.adr g o t).1 (x.adr g o t).2 (Ze p)).heap[k]?)→Vd W lo g o (VM.put p x t)
 | [],x,g,o,h,hs,hp,hg,hW=> by
  rw [VM.sub_nil] at hs
  cases hs
  rw [VM.adr_nil] at hW
  rw [VM.put_nil]
  refine ⟨fun i u hu=> (World.cell?_of_block (a:=⟨g,o+i,none⟩) (hW g (.inl rfl) h.out)).trans (Pg g _ w o (fun i hi=> ?_) i u hu),hpo,hpn,hg⟩
  rw [Zu] at hi
  exact ⟨_,h.cells i _ (List.getElem?_eq_getElem (by rw [Zu];exact hi))⟩
 |j::t,x,g,o,h,hs,hp,hg,hW=> by
  obtain ⟨hj,hs⟩:=VM.sub_lt hs
  obtain ⟨rest,hr1,hr2⟩:=VM.bks_put (x:=x) (t:=j::t) (by rw [VM.sub_at hj];exact hs)
  obtain ⟨n,b,vb,vi,l⟩:=x
  simp only [VM.items_mk] at hj hs
  have hown:=h.own
  have hnd:=h.nd
  have hout:=h.out
  have ob:=hown.bytes
  have oi:=hown.row
  have ox:=hown.its
  simp only [VM.vb_mk,VM.b_mk,VM.vi_mk,VM.items_mk] at ob oi ox
  obtain ⟨q,c,ev,hq⟩:=Ql oi (by omega)
  subst ev
  rw [VM.adr_at (h:=q) (by exact hj) rfl] at hW
  simp only [VM.items_mk] at hW
  have hbk:(VM.mk n b vb (.slice (some ⟨q,0,none⟩) l.length c) l).bks=vb.ownBlock.toList++([q]++VM.bkss l):=by rw [VM.bks_mk];rfl
  rw [hbk] at hnd hout
  rw [VM.bkss_at hj] at hnd hout
  simp only [List.nodup_append,List.mem_append,List.mem_singleton,List.nodup_cons,List.not_mem_nil,List.nodup_nil] at hnd
  simp only [List.mem_append,List.mem_singleton,not_or] at hout
  have hin:∀k,k∈l[j].bks→k∈(VM.mk n b vb (.slice (some ⟨q,0,none⟩) l.length c) l).bks:=fun k hk=> by
   rw [hbk,VM.bkss_at hj];simp only [List.mem_append];exact .inr (.inr (.inr (.inl hk)))
  have hqx:q∈(VM.mk n b vb (.slice (some ⟨q,0,none⟩) l.length c) l).bks:=by rw [hbk];simp
  have hqj:q ∉ l[j].bks:=fun hk=> (hnd.2.1.2.2 q rfl q (.inr (.inl hk))) rfl
  have hvq:vb.ownBlock≠some q:=fun e=> hnd.2.2 q (by rw [e];simp) q (.inl rfl) rfl
  have hvj:∀k,vb.ownBlock=some k→k ∉ l[j].bks:=fun k e hk=> hnd.2.2 k (by rw [e];simp) k (.inr (.inr (.inl hk))) rfl
  have hbox:Vd w lo q (j*3) l[j]:=⟨fun i u hu=> by
    have hi3:i < 3:=by have:=(List.getElem?_eq_some_iff.1 hu).1;rwa [Zu] at this
    have hc:=oi.cellAt (j*3+i) (by have:=Nat.mul_le_mul_right 3 (show j+1≤l.length by omega);omega)
    rw [hc,Xp Ze 3 Zu l j i hj hi3]
    exact hu,ox _ (List.getElem_mem hj),hnd.2.1.2.1.2.1.1,hqj⟩
  have hpq:q ∉ p.bks:=fun hk=> by
   rcases hp q hk with h1|h1
   ·exact h1 hqx
   ·exact hqj (VM.bks_sub hs h1)
  have i1:=Vd.put2 hpo hpn hbox hs (fun k hk=> (hp k hk).imp (fun h1 h2=> h1 (hin k h2)) id) hpq (fun k hk hy=> hW k (.inr (by
   rcases hk with rfl|hk
   ·exact hqx
   ·exact hin k hk)) hy)
  have i2:=VM.adr_in (g:=q) (o:=j*3) hs (ox _ (List.getElem_mem hj))
  have hyj:∀k,k∈y.bks→k∈l[j].bks:=fun k hk=> VM.bks_sub hs hk
  obtain ⟨a,ha⟩:∃a,a=(l[j].adr q (j*3) t).1:=⟨_,rfl⟩
  obtain ⟨o',ho'⟩:∃o',o'=(l[j].adr q (j*3) t).2:=⟨_,rfl⟩
  rw [←ha,←ho'] at hW
  rw [←ha] at i2
  have hax:a∈(VM.mk n b vb (.slice (some ⟨q,0,none⟩) l.length c) l).bks:=by
   rcases i2 with e|e
   ·rw [e];exact hqx
   ·exact hin a e
  have hag:g≠a:=fun e=> h.out (e ▸ hax)
  have hav:∀k,vb.ownBlock=some k→k≠a:=fun k e e2=> by
   subst e2
   rcases i2 with e3|e3
   ·exact hvq (e3 ▸ e)
   ·exact hvj k e e3
  have hKW:∀k,(k=g∨k∈(VM.mk n b vb (.slice (some ⟨q,0,none⟩) l.length c) l).bks)→k ∉ l[j].bks→k≠a→W.heap[k]?=w.heap[k]?:=fun k h1 h2 h3=> (hW k h1 (fun h4=> h2 (hyj k h4))).trans (putCells_heap h3 _ _ _)
  refine ⟨fun i u hu=> ?_,?_,?_,?_⟩
  ·rw [World.cell?_of_block (a:=⟨g,o+i,none⟩) (hKW g (.inl rfl) (fun h1=> h.out (hin g h1)) hag)]
   refine h.cells i u ?_
   rw [VM.put_at (by exact hj)] at hu
   exact hu
  ·rw [VM.put_at (by exact hj)]
   simp only [VM.n_mk,VM.b_mk,VM.vb_mk,VM.vi_mk,VM.items_mk]
   refine .mk (Qe ob fun k e=> hKW k (.inr (by rw [hbk,e];simp)) (hvj k e) (hav k e)) ?_ fun z hz=> ?_
   ·rw [List.length_set]
    cases t with
    |nil=>
     rw [VM.sub_nil] at hs
     cases hs
     rw [VM.adr_nil] at ha ho'
     dsimp only at ha ho'
     subst ha ho'
     rw [VM.put_nil,VM.flat_set hj]
     have hl:((l.take j).flatMap Ze).length=j*3:=by rw [Yt Ze 3 Zu,List.length_take,Nat.min_eq_left (by omega)]
     have hs:=VM.flat_set hj l[j]
     rw [List.set_getElem_self,List.append_assoc] at hs
     rw [hs] at oi
     have:=Ru (Ze p) w ((l.take j).flatMap Ze) (Ze l[j]++(l.drop (j+1)).flatMap Ze) (by simp [Ze]) oi
     rw [hl] at this
     rw [show (Ze l[j]++(l.drop (j+1)).flatMap Ze).drop (Ze p).length=(l.drop (j+1)).flatMap Ze from by
      rw [Zu,←Zu l[j],List.drop_left]] at this
     exact Qe this fun k e=> by
      have:a=k:=by simpa [Value.ownBlock] using e
      rw [←this]
      exact hW a (.inr hqx) hqj
    |cons i t=>
     obtain ⟨hi,hs'⟩:=VM.sub_lt hs
     have haq:q≠a:=by
      rcases i2 with e|e
      ·have oj:=(ox _ (List.getElem_mem hj)).row
       obtain ⟨q',c',ev',hq'⟩:=Ql oj (by omega)
       have hm:q'∈l[j].bks:=by
        have hd:=VM.bks_mk l[j].n l[j].b l[j].vb l[j].vi l[j].items
        have he:(VM.mk l[j].n l[j].b l[j].vb l[j].vi l[j].items)=l[j]:=by cases l[j];rfl
        rw [he] at hd
        rw [hd,hq'];simp
       intro _
       rw [VM.adr_at hi hq'] at ha
       have hsub:Vd w lo q' (i*3) l[j].items[i]∨True:= .inr trivial
       rcases VM.adr_in (x:=l[j].items[i]) (y:=y) (g:=q') (o:=i*3) (t:=t) hs' ((ox _ (List.getElem_mem hj)).its _ (List.getElem_mem hi)) with e4|e4
       ·rw [←ha,e] at e4
        exact hqj (e4 ▸ hm)
       ·rw [←ha,e] at e4
        refine hqj ?_
        have:=VM.bks_sub (x:=l[j]) (t:= [i]) (y:=l[j].items[i]) (by rw [VM.sub_at hi,VM.sub_nil]) e4
        exact this
      ·exact fun e'=> hqj (e' ▸ e)
     rw [VM.flat_same hj _ (by rw [VM.put_at hi];rfl)]
     exact Qe oi fun k e=> by
      have:q=k:=by simpa [Value.ownBlock] using e
      rw [←this]
      exact hKW q (.inr hqx) hqj haq
   ·obtain ⟨i,hi,rfl⟩:=List.getElem_of_mem hz
    rw [List.length_set] at hi
    rw [List.getElem_set]
    split
    ·exact i1.own
    ·rename_i hne
     refine (ox _ (List.getElem_mem hi)).keep fun k hk=> ?_
     have hmem:k∈VM.bkss (l.take j)∨k∈VM.bkss (l.drop (j+1)):=by
      by_cases hij:i < j
      ·exact .inl (VM.mem_bkss (x:=l[i]) (List.mem_take_iff_getElem.2 ⟨i,by omega,rfl⟩) hk)
      ·refine .inr (VM.mem_bkss (x:=l[i]) ?_ hk)
       exact List.mem_drop_iff_getElem.2 ⟨i - (j+1),by omega,by simp [show j+1+(i - (j+1))=i by omega]⟩
     have hkx:k∈(VM.mk n b vb (.slice (some ⟨q,0,none⟩) l.length c) l).bks:=by
      rw [hbk]
      exact List.mem_append_right _ (List.mem_append_right _ (VM.mem_bkss (List.getElem_mem hi) hk))
     have hkj:k ∉ l[j].bks:=fun hkj=> by
      rcases hmem with h1|h1
      ·exact hnd.2.1.2.1.2.2 k h1 k (.inl hkj) rfl
      ·exact hnd.2.1.2.1.2.1.2.2 k hkj k h1 rfl
     refine hKW k (.inr hkx) hkj fun e=> ?_
     rcases i2 with e2|e2
     ·have e3:k=q:=e.trans e2
      rcases hmem with h1|h1
      ·exact hnd.2.1.2.2 q rfl q (.inl (e3 ▸ h1)) rfl
      ·exact hnd.2.1.2.2 q rfl q (.inr (.inr (e3 ▸ h1))) rfl
     ·exact hkj (e ▸ e2)
  ·rw [(hr2 p).nodup_iff,List.nodup_append]
   have hN:=(hr1.nodup_iff).1 h.nd
   rw [List.nodup_append] at hN
   refine ⟨hpn,hN.2.1,fun k hk k' hk' e=> ?_⟩
   subst e
   rcases hp k hk with h1|h1
   ·exact h1 (hr1.mem_iff.2 (List.mem_append_right _ hk'))
   ·exact hN.2.2 k h1 k hk' rfl
  ·intro hk
   rcases List.mem_append.1 ((hr2 p).mem_iff.1 hk) with h1|h1
   ·exact hg h1
   ·exact h.out (hr1.mem_iff.2 (List.mem_append_right _ h1))
theorem VM.adr_out {lo:Nat} {w:World}:∀{t:List Nat} {x y:VM} {g o:Nat},x.own lo w→x.bks.Nodup→g ∉ x.bks→x.sub t=some y→(x.adr g o t).1 ∉ y.bks
 | [],x,y,g,o,_,_,hg,h=> by rw [VM.sub_nil] at h;cases h;rw [VM.adr_nil];exact hg
 |j::t,x,y,g,o,hx,hn,hg,h=> by
  obtain ⟨hj,h⟩:=VM.sub_lt h
  obtain ⟨q,c,ev,hq⟩:=Ql hx.row (by omega)
  rw [VM.adr_at hj hq]
  obtain ⟨n,b,vb,vi,l⟩:=x
  simp only [VM.items_mk,VM.vi_mk] at hj h ev hq ⊢
  rw [VM.bks_mk,hq,VM.bkss_at hj] at hn
  simp only [Option.toList_some,List.nodup_append,List.mem_append,List.mem_singleton,List.nodup_cons,List.not_mem_nil,List.nodup_nil] at hn
  exact VM.adr_out (hx.its _ (List.getElem_mem hj)) hn.2.1.2.1.2.1.1 (fun hk=> hn.2.1.2.2 q rfl q (.inr (.inl hk)) rfl) h
theorem Hh {w1 w2:World} {b o:Nat} {v:Value} (h:w1.heap[b]?=w2.heap[b]?):(w1.setCell ⟨b,o,none⟩ v).heap[b]?=(w2.setCell ⟨b,o,none⟩ v).heap[b]?:=by
 unfold World.setCell
 simp only [Array.getElem?_modify,h]
theorem run_copyN {P:Program} (w:World) (dT sT ty elem:TypeId) (g o dLen dCap:Nat) (a:Addr) (sLen sCap m size:Nat) (cur:Array Value) (t:TypeId) (cs:List Value)
  (hu:P.underlying dT=some (.slice elem)) (hs:(P.info? elem).map (·.size)=some size) (hg:w.heap[g]?=some (.cells cur t (0,0))) (hm:Nat.min sLen dLen=m) (hn:cs.length=m*size)
  (hsrc:∀j v,cs[j]?=some v→w.cell? (a.add j)=some v) (hfit:o+cs.length≤cur.size) (h1:∀v∈cs,v.oneCell'=true):
  (Builtin.copy_ #[dT,sT] ty #[.slice (some ⟨g,o,none⟩) dLen dCap, .slice (some a) sLen sCap]).run P w= .ok (goInt m) (w.setRow g (cur.toList.take o++cs++cur.toList.drop (o+cs.length)).toArray):=by
 have hl:=run_loadCells_list (P:=P) w a cs hsrc
 have hst:=run_storeCells_at P g o t cs 0 cur w hg (by simpa using hfit) h1
 cases hq:P.info? elem with
 |none=> simp [hq] at hs
 |some i=>
  have hi:i.size=size:=by simpa [hq] using hs
  rw [hn] at hl
  simp [Builtin.copy_,run_underlying hu,Builtin.lenOf,Builtin.firstCells,sizeOf,typeInfo,hq,hi,hm,hl,hst]
theorem wp_copyN {P:Program} {w:World} {o:Oper} {a:Act} {K:Act→World→Prop} {Q:Exit→Act→World→Prop} (d s:Operand) (dT sT:TypeId) (ho:o.op= .call { callee:= .builtin .copy,args:= #[d,s],argTypes:= #[dT,sT] })
  (v u:Value) (hd:a.eval d=v) (hs:a.eval s=u) {v':Value} {w':World} (hr:(Builtin.copy_ #[dT,sT] o.type #[v,u]).run P w= .ok v' w') (h:K (a.put o.dst v') w'):o.wp P a w K Q:=by
 unfold Oper.wp
 simp [execOp,ho,resolve,invoke,builtin,hd,hs,hr,Result.andThen]
 exact h
theorem run_clear1 {P:Program} (w:World) (t e ty:TypeId) (i:TypeInfo) (x y z:Value) (ht:P.underlying t=some (.slice e)) (hi:P.info? e=some i) (hz:i.zero=some (.agg #[x,y,z])) (hx:x.cells= #[x]) (hy:y.cells= #[y]) (hzz:z.cells= #[z]) (g o c:Nat) (cur:Array Value) (T:TypeId) (hg:w.heap[g]?=some (.cells cur T (0,0))) (hfit:o+3≤cur.size) (h1:x.oneCell'=true) (h2:y.oneCell'=true) (h3:z.oneCell'=true):
  (Builtin.clear_ #[t] ty #[.slice (some ⟨g,o,none⟩) 1 c]).run P w= .ok (.tuple #[]) (w.setRow g (cur.toList.take o++ [x,y,z]++cur.toList.drop (o+3)).toArray):=by
 have hst:=run_storeCells_at P g o T [x,y,z] 0 cur w hg (by simpa using hfit) (by simp [h1,h2,h3])
 have hzc:(Value.agg #[x,y,z]).cells= #[x,y,z]:=by simp [Value.cells,hx,hy,hzz]
 have hzn:(Builtin.zeroCells #[x,y,z] 1).toList= [x,y,z]:=by simp [Builtin.zeroCells,List.range_succ]
 simp [Builtin.clear_,run_underlying ht,zeroValue,typeInfo,hi,hz,hzc,hzn,hst]
theorem Gm {P:Program} {w:World} {ops:Array Oper} {rest:List Oper} {o:Oper} {a:Act} {Q:Exit→Act→World→Prop} (hgd:o.guard=none) (s:Operand) (T:TypeId) (ho:o.op= .call { callee:= .builtin .clear,args:= #[s],argTypes:= #[T] })
  (v:Value) (hs:a.eval s=v) {v':Value} {w':World} (hr:(Builtin.clear_ #[T] o.type #[v]).run P w= .ok v' w') (h:wpList P ops Q rest (a.put o.dst v') w'):wpList P ops Q (o::rest) a w:=by
 refine wpList_plain hgd fun K hK=> ?_
 unfold Oper.wp
 simp [execOp,ho,resolve,invoke,builtin,hs,hr,Result.andThen]
 exact hK _ _ h
theorem VM.rem_d (y:VM) (i:Nat) (vi:Value):(VM.mk y.n y.b y.vb vi (y.items.take i++y.items.drop (i+1))).d=remV i y.d:=by
 rw [VM.d_mk]
 unfold remV
 rw [VM.n_d,VM.b_d,VM.items_d,List.map_append,List.map_take,List.map_drop]
theorem VM.rem_bks {y:VM} {i:Nat} {vi:Value} (hi:i < y.items.length) (hv:vi.ownBlock=y.vi.ownBlock):List.Sublist (VM.mk y.n y.b y.vb vi (y.items.take i++y.items.drop (i+1))).bks y.bks:=by
 obtain ⟨n,b,vb,vo,l⟩:=y
 simp only [VM.n_mk,VM.b_mk,VM.vb_mk,VM.vi_mk,VM.items_mk] at hi hv ⊢
 rw [VM.bks_mk,VM.bks_mk,hv,VM.bkss_append,VM.bkss_at hi]
 exact (List.Sublist.refl _).append ((List.Sublist.refl _).append ((List.Sublist.refl _).append (List.sublist_append_right _ _)))
theorem Gz {w w':World} {b o:Nat} (h:w'.heap[b]?=w.heap[b]?):w'.frozen? ⟨b,o,none⟩=w.frozen? ⟨b,o,none⟩:=by
 unfold World.frozen?
 simp only [h]
theorem rem_row {L xs zs:List Value} {i n c:Nat} (hi:i < n) (hn:n≤c) (hL:L.length=c*3) (hx:L.take (n*3)=xs) (hz:zs.length=3):
  (((L.take (i*3)++xs.drop ((i+1)*3)++L.drop (i*3+(xs.drop ((i+1)*3)).length)).take ((n - 1)*3)++zs++(L.take (i*3)++xs.drop ((i+1)*3)++L.drop (i*3+(xs.drop ((i+1)*3)).length)).drop ((n - 1)*3+3)).length=c*3)∧
  (((L.take (i*3)++xs.drop ((i+1)*3)++L.drop (i*3+(xs.drop ((i+1)*3)).length)).take ((n - 1)*3)++zs++(L.take (i*3)++xs.drop ((i+1)*3)++L.drop (i*3+(xs.drop ((i+1)*3)).length)).drop ((n - 1)*3+3)).take ((n - 1)*3)=xs.take (i*3)++xs.drop ((i+1)*3)):=by
 have hxl:xs.length=n*3:=by rw [←hx,List.length_take,hL];omega
 have h1:L.take (i*3)=xs.take (i*3):=by rw [←hx,List.take_take,Nat.min_eq_left (by omega)]
 rw [h1]
 have h2:(xs.take (i*3)++xs.drop ((i+1)*3)).length=(n - 1)*3:=by rw [List.length_append,List.length_take,List.length_drop,hxl];omega
 have h3:(xs.take (i*3)++xs.drop ((i+1)*3)++L.drop (i*3+(xs.drop ((i+1)*3)).length)).take ((n - 1)*3)=xs.take (i*3)++xs.drop ((i+1)*3):=by rw [←h2,List.take_left]
 rw [h3]
 refine ⟨?_,?_⟩
 ·simp only [List.length_append,List.length_drop,List.length_take,hxl,hL,hz]
  omega
 ·rw [List.append_assoc,←h2,List.take_left]
theorem editRem_any (vD:Value) (l:List RM) (x:VM) (s:ByteArray) (B:Nat) (w:World) (h:Jc w B vD l) (hB:B≤w.heap.size) (ok:∀r∈l,r.d.ok) (sm:∀r∈l,r.d.small 1048576) (hx:x.rd w B) (hs:x.d.size≤2097152) (hss:s.size≤2097152) (ht:Tab w)
  (chg:Int→Zt→Option Zt) (gd ga:Nat)
  (hCH:∀(x':VM) (S:List ByteArray) (lo g:Nat) (t:List Nat) (y:VM) (k g' o':Nat) (W:World),Below w.heap.size w W→w.heap.size≤lo→lo≤g→g < W.heap.size→lo≤W.heap.size→Vd W lo g 0 x'→(∀i,i < 3→W.frozen? ⟨g,i,none⟩=false)→x'.d.size≤2097152→Qc (l.map RM.d) ((l.length:Int) - 1)=true→Hn (l.map RM.d) x' S W lo g 0 S.length t y k g' o'→
    Calls prog 38 #[.pointer (some ⟨g',o',none⟩), .int .i64 k, .pointer (some ⟨gd,0,none⟩), .pointer (some ⟨ga,0,none⟩)] W (ChE x' t lo g (chg k y.d) W)):
  Calls prog 24 #[.agg #[vD],Qr x, .string s, .func (.func 38) #[] #[.pointer (some ⟨gd,0,none⟩), .pointer (some ⟨ga,0,none⟩)]] w
   (Pa (Vx (Jg (l.map RM.d) x.d (Qu Zf s) (Yl Zf s) chg).1) (.bool (Jg (l.map RM.d) x.d (Qu Zf s) (Yl Zf s) chg).2) w):=by
 have hs4:x.d.size≤4194304:=by omega
 have hlm:(l.map RM.d).length=l.length:=List.length_map ..
 have hR:∀W,Below w.heap.size w W→Calls prog 58 #[.agg #[vD]] W fun e w'=> e= .returned (.int .i64 ((l.length:Int) - 1))∧Below W.heap.size W w':=fun W hb=> Rw vD l B W (h.below (hb.mono hB))
 have hSP:∀W,Below w.heap.size w W→Calls prog 57 #[.string s] W fun e w'=> ∃v,e= .returned (.tuple #[v, .bool (Qu Zf s)])∧OwS (Yl Zf s) W.heap.size w'.heap.size w' v∧Below W.heap.size W w':=fun W hb=> Ra s W hss
 have hV:∀W,Below w.heap.size w W→Calls prog 28 #[.agg #[vD], .int .i64 ((l.length:Int) - 1),Qr x] W fun e w'=> e= .returned (.bool (Qc (l.map RM.d) ((l.length:Int) - 1) && Zo (l.map RM.d) ((l.length:Int) - 1) x.d))∧Below W.heap.size W w':=fun W hb=>
  Vi vD l _ x w.heap.size W ((h.below (hb.mono hB)).more hB) hb.size ok sm ((hx.bel (hb.mono hB)).more hB) hs4
 have hsz:∀p∈Yl Zf s,p.size≤maxLen:=fun p hp=> by
  unfold Yl at hp
  split at hp
  ·have:=Uw s 47 p (List.mem_of_mem_tail hp)
   unfold maxLen;omega
  ·cases hp
 have hP:∀(x':VM) (lo:Nat),x'.d=x.d→Qc (l.map RM.d) ((l.length:Int) - 1)=true→Zo (l.map RM.d) ((l.length:Int) - 1) x.d=true→∀W (g:Nat) (vS:Value),Below w.heap.size w W→x'.own lo W→Xx W W.heap.size vS (Yl Zf s)→W.cell? ⟨g,0,none⟩=some (.int .i64 x'.n)→W.cell? ⟨g,1,none⟩=some x'.vb→W.cell? ⟨g,2,none⟩=some x'.vi→
   Calls prog 59 #[.agg #[vD], .pointer (some ⟨g,0,none⟩),vS] W fun e w'=> Below W.heap.size W w'∧PartE (l.map RM.d) x' (Yl Zf s) W lo g 0 e:=fun x' lo hd hk hv W g vS hb hx' hS a0 a1 a2=> by
  have hrg:=Xw hk
  have hl:0 < l.length:=by omega
  rw [Um hl] at hv
  exact Ie vD l x' lo g 0 vS (Yl Zf s) B W (h.below (hb.mono hB)) (by have:=hb.size;omega) ok sm (Xv hk) hl hx' (by rw [hd];exact hs4) (by rw [hd];exact hv) a0 (by rw [Nat.zero_add];exact a1) (by rw [Nat.zero_add];exact a2) hS hsz (Rq ht hb)
 have hCP:∀W,Below w.heap.size w W→Calls prog 27 #[Qr x] W (Ov (Vx x.d) W):=fun W hb=>
  Rx x w.heap.size W ((hx.bel (hb.mono hB)).more hB) hb.size hs4
 obtain ⟨A,c,rfl,hc,hm, -⟩:=h.open_
 obtain ⟨Ax,cx,ex, -⟩:=hx.bytes.open_
 obtain ⟨Ay,cy,ey, -⟩:=hx.its.open_
 have hvm:Qr x= .agg #[.int .i64 x.n, .slice Ax x.b.length cx, .slice Ay x.items.length cy]:=by unfold Qr;rw [ex,ey]
 rw [hvm] at hV hCP ⊢
 have HR:=Fd hR
 have HSP:=Fd hSP
 have HV:=Fd hV
 have HP:=Fd hP
 have HCP:=Fd hCP
 have HCH:=Fd hCH
 have HLM:=Fd hlm
 have HSX:=Fd hs
 have hnx:x.d.items.length=x.items.length:=by rw [VM.items_d,List.length_map]
 have HNX:=Fd hnx
 clear hR hSP hV hP hCP hCH hlm ok sm h hs hs4 hss ht hsz hx ex ey hvm hnx hc
 unfold maxLen at hm
 obtain ⟨W0,hW0⟩:∃W0,W0=(((w.alloc (.cells #[.slice A l.length c] 26)).alloc (.cells #[.int .i64 x.n, .slice Ax x.b.length cx, .slice Ay x.items.length cy] 29)).alloc (.cells #[.int .i64 0, .slice none 0 0, .slice none 0 0] 29)):=⟨_,rfl⟩
 have hb0:Below w.heap.size w W0:=by rw [hW0];exact (((Below.refl w.heap.size w).alloc (Nat.le_refl _) _).alloc (by simp) _).alloc (by simp;omega) _
 have hz0:W0.heap.size=w.heap.size+3:=by rw [hW0];simp
 have y0:W0.cell? ⟨w.heap.size,0,none⟩=some (.slice A l.length c):=by rw [hW0];simp [go_sem]
 have HV3:B3 W0 (w.heap.size+1) (.int .i64 x.n) (.slice Ax x.b.length cx) (.slice Ay x.items.length cy):=by
  rw [hW0]
  refine B3.alloc ?_ _
  have:=B3.new (w.alloc (.cells #[.slice A l.length c] 26)) (.int .i64 x.n) (.slice Ax x.b.length cx) (.slice Ay x.items.length cy) 29
  simpa using this
 have HR3:B3 W0 (w.heap.size+1+1) (.int .i64 0) (.slice none 0 0) (.slice none 0 0):=by
  rw [hW0]
  have:=B3.new ((w.alloc (.cells #[.slice A l.length c] 26)).alloc (.cells #[.int .i64 x.n, .slice Ax x.b.length cx, .slice Ay x.items.length cy] 29)) (.int .i64 0) (.slice none 0 0) (.slice none 0 0) 29
  simpa using this
 go_enter func24,ntmps24
 go_wp2_with fail
 rw [←hW0]
 clear hW0
 refine (HSP.out _ hb0).mono ?_
 rintro e w2 ⟨vs,rfl,hrd,bel⟩
 have b2:=Zb bel hb0
 have y2:=cell_later bel y0
 have HV3:=HV3.later bel
 have HR3:=HR3.later bel
 have z2:w.heap.size+3≤w2.heap.size:=by have:=bel.size;omega
 have hsl:=hrd.sl
 obtain ⟨As,cs,rfl,hcs,hms,hsc⟩:=hsl.one
 have HSL:=Fd hsl
 clear bel y0 hb0 hrd hsc hsl HSP
 cases hok:Qu Zf s
 ·have HX:=Fd (Rm (D:=l.map RM.d) (x:=x.d) (ok:=Qu Zf s) (S:=Yl Zf s) (chg:=chg) (by rw [hok];rfl))
  clear HP HR HV HSL HCH hok
  generalize Yl Zf s=S at*
  generalize x.d=xd at*
  generalize x.items.length=nx at*
  obtain ⟨lt',p0,p1,p2,g0,g1,g2⟩:=HV3
  go_wp2_with fail
  refine wp_region_held_drew (S:=(fun w9=> w9.cell? ⟨w.heap.size,0,none⟩=some (.slice A l.length c))) (by kernel_rfl) ?_ (fun hHeld=> ?_)
  ·(try dsimp only);exact y2
  refine Za 0 (some 20) hHeld _ ?_;try go_frame
  refine Za 1 (some 21) hHeld _ ?_;try go_frame
  refine Za 2 (some 22) hHeld _ ?_;try go_frame
  refine Zh 3 (some 23) hHeld ?_;try go_frame
  refine Zh 4 (some 24) hHeld ?_;try go_frame
  refine Zh 5 (some 25) hHeld ?_;try go_frame
  refine Zh 6 (some 26) hHeld ?_;try go_frame
  refine Zh 7 (some 27) hHeld ?_;try go_frame
  refine Zh 8 (some 28) hHeld ?_;try go_frame
  refine Za 9 (some 29) hHeld _ ?_;try go_frame
  refine wpAnyH_done (by kernel_rfl) ?_ _
  go_wp2_with fail
  refine (HCP.out _ (b2.drew)).mono ?_
  rintro e wc ⟨vc,rfl,hoc,belc⟩
  have HB:=Fd (Zb belc (b2.drew))
  have RB:=HR3.later (((Below.refl w2.heap.size w2).drew).trans (belc.mono (by exact Nat.le_refl _)))
  obtain ⟨Ac,cc,Ac',cc',rfl⟩:=hoc.agg
  have hoc:Vx xd w2.heap.size wc.heap.size wc _:=hoc
  have hz:w2.heap.size≤wc.heap.size:=belc.size
  have HO:=Fd hoc
  clear hoc belc
  obtain ⟨lt,t0,t1,t2,f0,f1,f2⟩:=RB
  go_wp2
  rw [HX.out]
  refine bodyPost_ret (v:= .tuple #[.agg #[.int .i64 xd.n, .slice Ac xd.b.length cc, .slice Ac' xd.items.length cc'], .bool false]) (by simp [results,results24,go_sem,t0,t1,t2]) rfl ⟨_,rfl,?_,Qf HB.out (by omega) _ _ _⟩
  refine (HO.out.set3 (g:=w.heap.size+1+1) (.inr (by omega)) _ _ _).wide (by omega) (by simp)
 ·obtain ⟨lt',p0,p1,p2,g0,g1,g2⟩:=HV3
  cases hval:(Qc (l.map RM.d) ((l.length:Int) - 1) && Zo (l.map RM.d) ((l.length:Int) - 1) x.d)
  ·rw [hval] at HV
   have HX:=Fd (Rm (D:=l.map RM.d) (x:=x.d) (ok:=Qu Zf s) (S:=Yl Zf s) (chg:=chg) (by rw [hok,HLM.out,hval];rfl))
   clear HP HSL HCH hok hval
   generalize Yl Zf s=S at*
   generalize x.d=xd at*
   generalize x.items.length=nx at*
   go_wp2_with fail
   refine wp_region_held_drew (S:=(fun w9=> w9.cell? ⟨w.heap.size,0,none⟩=some (.slice A l.length c)∧w9.cell? ⟨w.heap.size+1,0,none⟩=some (.int .i64 x.n)∧w9.cell? ⟨w.heap.size+1,1,none⟩=some (.slice Ax x.b.length cx)∧w9.cell? ⟨w.heap.size+1,2,none⟩=some (.slice Ay nx cy))) (by kernel_rfl) ?_ (fun hHeld=> ?_)
   ·(try dsimp only);exact ⟨y2,p0,p1,p2⟩
   refine Za 0 (some 20) hHeld _ ?_;try go_frame
   refine Za 1 (some 21) hHeld _ ?_;try go_frame
   refine Za 2 (some 22) hHeld _ ?_;try go_frame
   refine Za 3 (some 23) hHeld _ ?_;try go_frame
   refine Za 4 (some 24) hHeld _ ?_;try go_frame
   refine Za 6 (some 26) hHeld _ ?_;try go_frame
   refine Zi 5 (fun K hK=> ?_)
   go_simp
   refine (HR.out _ b2.drew).mono ?_;rintro e w7 ⟨rfl,bel7⟩;have bq:=Zb bel7 ((Below.refl w2.heap.size w2).drew);have bw:=Zb bel7 b2.drew
   (try go_wp2_with fail)
   refine hK.out _ _ ?_ (fun hHeld=> ?_)
   ·(try dsimp only);exact ⟨cell_later bq y2,cell_later bq p0,cell_later bq p1,cell_later bq p2⟩
   clear hK K
   try go_frame
   refine Zi 7 (fun K hK=> ?_)
   go_simp
   refine (HV.out _ bw).mono ?_;rintro e w8 ⟨rfl,bel8⟩;have bq:=Zb bel8 bq;have bw:=Zb bel8 bw
   (try go_wp2_with fail)
   refine hK.out _ _ ?_ (fun hHeld=> ?_)
   ·(try dsimp only);exact ⟨cell_later bq y2,cell_later bq p0,cell_later bq p1,cell_later bq p2⟩
   clear hK K
   try go_frame
   refine Za 8 (some 28) hHeld _ ?_;try go_frame
   refine Za 9 (some 29) hHeld _ ?_;try go_frame
   refine wpAnyH_done (by kernel_rfl) ?_ _
   have HR3:=HR3.later bq
   have r0:=cell_later bq p0
   have r1:=cell_later bq p1
   have r2:=cell_later bq p2
   clear p0 p1 p2
   have hz8:w.heap.size+3≤w8.heap.size:=by have:=bq.size;omega
   clear bel7 bel8 bq
   go_wp2_with fail
   refine (HCP.out _ (bw)).mono ?_
   rintro e wc ⟨vc,rfl,hoc,belc⟩
   have HB:=Fd (Zb belc (bw))
   have RB:=HR3.later belc
   obtain ⟨Ac,cc,Ac',cc',rfl⟩:=hoc.agg
   have hoc:Vx xd w8.heap.size wc.heap.size wc _:=hoc
   have hz:w8.heap.size≤wc.heap.size:=belc.size
   have HO:=Fd hoc
   clear hoc belc
   obtain ⟨lt,t0,t1,t2,f0,f1,f2⟩:=RB
   go_wp2
   rw [HX.out]
   refine bodyPost_ret (v:= .tuple #[.agg #[.int .i64 xd.n, .slice Ac xd.b.length cc, .slice Ac' xd.items.length cc'], .bool false]) (by simp [results,results24,go_sem,t0,t1,t2]) rfl ⟨_,rfl,?_,Qf HB.out (by omega) _ _ _⟩
   refine (HO.out.set3 (g:=w.heap.size+1+1) (.inr (by omega)) _ _ _).wide (by omega) (by simp)
  ·rw [hval] at HV
   have hkn:Qc (l.map RM.d) ((l.length:Int) - 1)=true∧Zo (l.map RM.d) ((l.length:Int) - 1) x.d=true:=by simpa using hval
   have HKN:=Fd hkn
   have HXT:=Fd (show (Qu Zf s && (Qc (l.map RM.d) (((l.map RM.d).length:Int) - 1) && Zo (l.map RM.d) (((l.map RM.d).length:Int) - 1) x.d))=true by rw [hok,HLM.out,hval];rfl)
   clear hok hval hkn
   generalize Yl Zf s=S at*
   go_wp2_with fail
   refine wp_region_held_drew (S:=(fun w9=> w9.cell? ⟨w.heap.size,0,none⟩=some (.slice A l.length c)∧w9.cell? ⟨w.heap.size+1,0,none⟩=some (.int .i64 x.n)∧w9.cell? ⟨w.heap.size+1,1,none⟩=some (.slice Ax x.b.length cx)∧w9.cell? ⟨w.heap.size+1,2,none⟩=some (.slice Ay x.items.length cy))) (by kernel_rfl) ?_ (fun hHeld=> ?_)
   ·(try dsimp only);exact ⟨y2,p0,p1,p2⟩
   refine Za 0 (some 20) hHeld _ ?_;try go_frame
   refine Za 1 (some 21) hHeld _ ?_;try go_frame
   refine Za 2 (some 22) hHeld _ ?_;try go_frame
   refine Za 3 (some 23) hHeld _ ?_;try go_frame
   refine Za 4 (some 24) hHeld _ ?_;try go_frame
   refine Za 6 (some 26) hHeld _ ?_;try go_frame
   refine Zi 5 (fun K hK=> ?_)
   go_simp
   refine (HR.out _ b2.drew).mono ?_;rintro e w7 ⟨rfl,bel7⟩;have bq:=Zb bel7 ((Below.refl w2.heap.size w2).drew);have bw:=Zb bel7 b2.drew
   (try go_wp2_with fail)
   refine hK.out _ _ ?_ (fun hHeld=> ?_)
   ·(try dsimp only);exact ⟨cell_later bq y2,cell_later bq p0,cell_later bq p1,cell_later bq p2⟩
   clear hK K
   try go_frame
   refine Zi 7 (fun K hK=> ?_)
   go_simp
   refine (HV.out _ bw).mono ?_;rintro e w8 ⟨rfl,bel8⟩;have bq:=Zb bel8 bq;have bw:=Zb bel8 bw
   (try go_wp2_with fail)
   refine hK.out _ _ ?_ (fun hHeld=> ?_)
   ·(try dsimp only);exact ⟨cell_later bq y2,cell_later bq p0,cell_later bq p1,cell_later bq p2⟩
   clear hK K
   try go_frame
   refine Za 8 (some 28) hHeld _ ?_;try go_frame
   refine Za 9 (some 29) hHeld _ ?_;try go_frame
   refine wpAnyH_done (by kernel_rfl) ?_ _
   have HR3:=HR3.later bq
   have HSL:=Fd ((Sl.below HSL.out bq).more bq.size)
   have r0:=cell_later bq p0
   have r1:=cell_later bq p1
   have r2:=cell_later bq p2
   have y8:=cell_later bq y2
   have b8:=bw
   have hz8:w.heap.size+3≤w8.heap.size:=by have:=bq.size;omega
   clear bel7 bel8 bq bw y2 p0 p1 p2 g0 g1 g2 HR HV b2 lt'
   go_wp2_with fail
   refine (HCP.out _ b8).mono ?_
   rintro e w1 ⟨v,rfl,⟨x',hd,rfl,ho⟩,bel⟩
   obtain ⟨A7,c7,e7, -⟩:=ho.own.rd.bytes.open_
   obtain ⟨A8,c8,e8, -⟩:=ho.own.rd.its.open_
   have hvm:Qr x'= .agg #[.int .i64 x'.n, .slice A7 x'.b.length c7, .slice A8 x'.items.length c8]:=by unfold Qr;rw [e7,e8]
   rw [hvm]
   obtain ⟨W2,hW2⟩:∃W2,W2=w1.alloc (.cells #[.int .i64 x'.n, .slice A7 x'.b.length c7, .slice A8 x'.items.length c8] 29):=⟨_,rfl⟩
   have h12:Below w1.heap.size w1 W2:=by rw [hW2];exact (Below.refl _ _).alloc (Nat.le_refl _) _
   have BB2:B3 W2 w1.heap.size (.int .i64 x'.n) (.slice A7 x'.b.length c7) (.slice A8 x'.items.length c8):=by rw [hW2];exact B3.new w1 _ _ _ _
   have hz2:W2.heap.size=w1.heap.size+1:=by rw [hW2];simp
   have b02:=bel.trans (h12.mono bel.size)
   have hb2:=Zb h12 (Zb bel b8)
   have s2:=cell_later b02 y8
   have r0:=cell_later b02 r0
   have r1:=cell_later b02 r1
   have r2:=cell_later b02 r2
   have HR3:=HR3.later b02
   have ho2:=ho.keep (Xm.of_below h12 0 0) (.inr (Nat.zero_le _))
   have HBX:=Fd (show Vd W2 w8.heap.size w1.heap.size 0 x' from ⟨fun i u hu=> by
    rw [Nat.zero_add]
    simp only [Ze,e7,e8] at hu
    match i,hu with
    |0,hu=> simp only [List.getElem?_cons_zero,Option.some.injEq] at hu;subst hu;exact BB2.c0
    |1,hu=> simp only [List.getElem?_cons_succ,List.getElem?_cons_zero,Option.some.injEq] at hu;subst hu;exact BB2.c1
    |2,hu=> simp only [List.getElem?_cons_succ,List.getElem?_cons_zero,Option.some.injEq] at hu;subst hu;exact BB2.c2
    |i+3,hu=> simp at hu,ho2.own,ho2.nd,fun hm=> by have:=(ho2.rng _ hm).2;omega⟩)
   have HSL:=Fd ((Sl.below HSL.out b02).more b02.size)
   have HPX:=Fd (HP.out x' w8.heap.size hd HKN.out.1 HKN.out.2 W2 w1.heap.size (.slice As S.length cs) hb2 ho2.own HSL.out BB2.c0 (by rw [e7];exact BB2.c1) (by rw [e8];exact BB2.c2))
   have HD:=Fd (And.intro hd (And.intro hvm bel.size))
   have hz1:w.heap.size+3≤w1.heap.size:=by have:=bel.size;omega
   obtain ⟨lb,a0,a1,a2,f0,f1,f2⟩:=BB2
   clear bel ho ho2 e7 e8 hvm hd HP y8 h12 b02 b8
   generalize hnn:x'.n=nn at*
   generalize hnb:x'.b.length=nb at*
   generalize hni:x'.items.length=ni at*
   have HNN:=Fd (And.intro hnn (And.intro hnb hni))
   clear hnn hnb hni
   go_upto_region 5 with fail
   rw [←hW2]
   clear hW2
   go_wp2_with fail
   refine HPX.out.mono ?_
   rintro e w9 ⟨bel9,⟨hn,rfl⟩|⟨t,y,k,g',o',hp,rfl⟩⟩
   ·rw [HD.out.1] at hn
    have HX:=Fd (Ry (ok:=Qu Zf s) (chg:=chg) hn)
    have HR3:=HR3.later bel9
    have bw:=Zb bel9 hb2
    have r0:=cell_later bel9 r0
    have r1:=cell_later bel9 r1
    have r2:=cell_later bel9 r2
    have z9:=bel9.size
    clear hn bel9 HD HPX HBX HSL HCH a0 a1 a2 s2 HKN HXT hb2
    generalize x.d=xd at*
    generalize x.items.length=nx at*
    go_wp2_with fail
    refine (HCP.out _ (bw)).mono ?_
    rintro e wc ⟨vc,rfl,hoc,belc⟩
    have HB:=Fd (Zb belc (bw))
    have RB:=HR3.later belc
    obtain ⟨Ac,cc,Ac',cc',rfl⟩:=hoc.agg
    have hoc:Vx xd w9.heap.size wc.heap.size wc _:=hoc
    have hz:w9.heap.size≤wc.heap.size:=belc.size
    have HO:=Fd hoc
    clear hoc belc
    obtain ⟨lt,t0,t1,t2,f0,f1,f2⟩:=RB
    go_wp2
    rw [HX.out]
    refine bodyPost_ret (v:= .tuple #[.agg #[.int .i64 xd.n, .slice Ac xd.b.length cc, .slice Ac' xd.items.length cc'], .bool false]) (by simp [results,results24,go_sem,t0,t1,t2]) rfl ⟨_,rfl,?_,Qf HB.out (by omega) _ _ _⟩
    refine (HO.out.set3 (g:=w.heap.size+1+1) (.inr (by omega)) _ _ _).wide (by omega) (by simp)
   ·have hw:=hp.rdi.done (Nat.le_refl _)
    rw [HD.out.1] at hw
    have r0:=cell_later bel9 r0
    have r1:=cell_later bel9 r1
    have r2:=cell_later bel9 r2
    have HR3:=HR3.later bel9
    have a0:=cell_later bel9 a0
    have a1:=cell_later bel9 a1
    have a2:=cell_later bel9 a2
    have b9:=Zb bel9 hb2
    have hbx:=HBX.out.later bel9
    have hfz:∀i,i < 3→w9.frozen? ⟨w1.heap.size,i,none⟩=false:=fun i hi=> by
     rw [bel9.frozen (p:=⟨w1.heap.size,i,none⟩) lb]
     match i,hi with
     |0,_=> exact f0
     |1,_=> exact f1
     |2,_=> exact f2
    have hcl:=HCH.out x' S w8.heap.size w1.heap.size t y k g' o' w9 b9 (by omega) HD.out.2.2 (by have:=bel9.size;omega) (by have:=bel9.size;have:=HD.out.2.2;omega) hbx hfz (by rw [HD.out.1];exact HSX.out) HKN.out.1 (hp.later bel9)
    have HW:=Fd (And.intro hw (hp.put))
    have hz9:w1.heap.size < w9.heap.size:=by have:=bel9.size;omega
    have HCL:=Fd hcl
    clear hcl hw hp hbx bel9 HBX HPX hb2 s2 HSL HCH HKN
    go_wp2_with fail
    refine HCL.out.mono ?_
    rintro e w10 ⟨bel10,⟨hc,rfl⟩|⟨z,rfl,hc,hbz⟩⟩
    ·have HX:=Fd (Xi (ok:=Qu Zf s) HW.out.1 hc)
     have h8:=HD.out.2.2
     have HR3:=HR3.keep bel10 (by omega)
     have bw:=b9.trans (bel10.mono (by omega))
     have r0:=Zc r0 bel10 (by omega)
     have r1:=Zc r1 bel10 (by omega)
     have r2:=Zc r2 bel10 (by omega)
     have z10:=bel10.size
     clear hc bel10 HD HCL HW HXT a0 a1 a2 b9 h8
     generalize x.d=xd at*
     generalize x.items.length=nx at*
     go_wp2_with fail
     refine (HCP.out _ (bw)).mono ?_
     rintro e wc ⟨vc,rfl,hoc,belc⟩
     have HB:=Fd (Zb belc (bw))
     have RB:=HR3.later belc
     obtain ⟨Ac,cc,Ac',cc',rfl⟩:=hoc.agg
     have hoc:Vx xd w10.heap.size wc.heap.size wc _:=hoc
     have hz:w10.heap.size≤wc.heap.size:=belc.size
     have HO:=Fd hoc
     clear hoc belc
     obtain ⟨lt,t0,t1,t2,f0,f1,f2⟩:=RB
     go_wp2
     rw [HX.out]
     refine bodyPost_ret (v:= .tuple #[.agg #[.int .i64 xd.n, .slice Ac xd.b.length cc, .slice Ac' xd.items.length cc'], .bool false]) (by simp [results,results24,go_sem,t0,t1,t2]) rfl ⟨_,rfl,?_,Qf HB.out (by omega) _ _ _⟩
     refine (HO.out.set3 (g:=w.heap.size+1+1) (.inr (by omega)) _ _ _).wide (by omega) (by simp)
    ·have HX:=Fd (Tq (S:=S) HXT.out HW.out.1 hc)
     have h8:=HD.out.2.2
     have HR3:=HR3.keep bel10 (by omega)
     have bw:=b9.trans (bel10.mono (by omega))
     obtain ⟨q,hq⟩:∃q,q=VM.put z x' t:=⟨_,rfl⟩
     rw [←hq] at hbz
     have hqd:q.d=Vy (l.map RM.d) z.d ((l.map RM.d).length - 1:Nat) x.d S:=by
      rw [hq,←HD.out.1]
      exact HW.out.2 z.d z (by rw [List.drop_length,Tg])
     have t0:=hbz.cells 0 _ rfl
     have t1:=hbz.cells 1 _ rfl
     have t2:=hbz.cells 2 _ rfl
     obtain ⟨A9,c9,e9, -⟩:=hbz.own.rd.bytes.open_
     obtain ⟨A10,c10,e10, -⟩:=hbz.own.rd.its.open_
     rw [e9] at t1
     rw [e10] at t2
     simp only [Nat.add_zero,Nat.zero_add] at t0 t1 t2
     have HQ:=Fd (And.intro hqd (And.intro hbz (And.intro e9 e10)))
     have HBW:=Fd bw
     have z10:=bel10.size
     clear hc hq hqd hbz e9 e10 bel10 HCL HW HXT a0 a1 a2 b9 bw r0 r1 r2
     generalize hnq:q.n=nq at*
     generalize hlq:q.b.length=lq at*
     generalize hkq:q.items.length=kq at*
     have HNQ:=Fd (And.intro hnq (And.intro hlq hkq))
     clear hnq hlq hkq
     obtain ⟨lt,j0,j1,j2,f0,f1,f2⟩:=HR3
     go_wp2
     rw [HX.out]
     obtain ⟨hqd,hbz,e9,e10⟩:=HQ.out
     obtain ⟨n1,n2,n3⟩:=HNQ.out
     refine bodyPost_ret (v:= .tuple #[.agg #[.int .i64 nq, .slice A9 lq c9, .slice A10 kq c10], .bool true]) (by simp [results,results24,go_sem,j0,j1,j2]) rfl ⟨_,rfl,⟨q,hqd,by unfold Qr;rw [e9,e10,n1],?_⟩,Qf HBW.out (by omega) _ _ _⟩
     have hlq:∀g∈q.bks,w8.heap.size≤g∧g < w10.heap.size:=hbz.own.lt
     have o1:Ut q w8.heap.size w10.heap.size w10:=⟨hbz.own,hbz.nd,hlq⟩
     refine (o1.keep (lo':=w.heap.size+1+1) (hi':=w.heap.size+3) ?_ (.inr (by omega))).wide (by omega) (by simp)
     repeat (refine Xm.setCell ?_ (by show _≤w.heap.size+1+1;omega) (by show w.heap.size+1+1 < _;omega) _)
     exact Xm.refl _ _ _
theorem remClo_any (vD:Value) (l:List RM) (at_:Int) (gd ga:Nat) (B:Nat) (w:World) (h:Jc w B vD l) (hB:B≤w.heap.size) (hat:Qa at_)
  (d0:w.cell? ⟨gd,0,none⟩=some vD) (a0:w.cell? ⟨ga,0,none⟩=some (.int .i64 at_))
  (x':VM) (S:List ByteArray) (lo g:Nat) (t:List Nat) (y:VM) (k g' o':Nat) (W:World) (hb:Below w.heap.size w W) (hlo:w.heap.size≤lo) (hlg:lo≤g) (hg:g < W.heap.size) (hlW:lo≤W.heap.size) (hbx:Vd W lo g 0 x') (hfz:∀i,i < 3→W.frozen? ⟨g,i,none⟩=false) (hxs:x'.d.size≤2097152) (hpt:Hn (l.map RM.d) x' S W lo g 0 S.length t y k g' o'):
  Calls prog 38 #[.pointer (some ⟨g',o',none⟩), .int .i64 k, .pointer (some ⟨gd,0,none⟩), .pointer (some ⟨ga,0,none⟩)] W (ChE x' t lo g (Ib (l.map RM.d) at_ k y.d) W):=by
 obtain ⟨i0,hi,hz0,hz1,hz2⟩:=info_parts info_value
 have hlm:(l.map RM.d).length=l.length:=List.length_map ..
 have hk:k < l.length:=by have:=hpt.rdi.rng;rwa [hlm] at this
 have hik:Xl (l.map RM.d) k 5=decide (l[k].d.kind=5):=by rw [Lf (by rw [hlm];exact hk),List.getElem_map]
 have hyl:y.d.items.length=y.items.length:=by rw [VM.items_d,List.length_map]
 have hys:y.d.size≤2097152:=Nat.le_trans (Uj (hpt.rdi.done (Nat.le_refl _))) hxs
 have hyn:y.items.length≤2097152:=by
  have h2:=Zt.length_le (y.items.map VM.d)
  rw [List.length_map] at h2
  have h1:=hys
  rw [VM.size_d] at h1
  omega
 obtain ⟨A,c,rfl,hc,hm, -⟩:=h.open_
 obtain ⟨b,off,A1,c1,A2,c2,A3,c3,A4,c4,rfl,hbB, -, -, -, -, -, -, -, -,hcell⟩:=Zx h k hk
 obtain ⟨-,x1, -, -, -, -, -, -⟩:=hcell W (Zy hb hB)
 obtain ⟨Az,cz,ez,hcz,hmz, -⟩:=hpt.own.rd.its.open_
 have t0:=hpt.c0
 have t1:=hpt.c1
 have t2:=hpt.c2
 rw [ez] at t2
 have hgd:gd < w.heap.size:=World.block_lt_of_cell? w _ d0
 have hga:ga < w.heap.size:=World.block_lt_of_cell? w _ a0
 have hgp:g' < W.heap.size:=World.block_lt_of_cell? W _ t0
 have d0:=cell_later hb d0
 have a0:=cell_later hb a0
 have hlg':lo≤g':=by
  have:=VM.adr_in (g:=g) (o:=0) hpt.sub hbx.own
  rw [hpt.adr] at this
  rcases this with e|e
  ·have e:g'=g:=e
   omega
  ·exact (hbx.own.lt _ e).1
 have hgy:g' ∉ y.bks:=by
  have:=VM.adr_out (g:=g) (o:=0) hbx.own hbx.nd hbx.out hpt.sub
  rwa [hpt.adr] at this
 have HBX:=Fd (And.intro hbx (And.intro hfz hpt))
 have HY:=Fd (And.intro ez hgy)
 have hnx:y.items.length≤9223372036854775807:=by omega
 have hnl:l.length≤9223372036854775807:=by unfold maxLen at hm;omega
 have hmz':cz≤9223372036854775807:=by unfold maxLen at hmz;omega
 have hat':=And.intro hat.1 hat.2
 have hgW:=hg
 clear hbx hfz hpt h hc hm hb hcell hbB hlm hxs hys hlg hg hgy hB
 by_cases hkd:l[k].d.kind=5
 ·rw [hkd] at x1
  cases hir:Yv at_ 0 ((y.items.length:Int) - 1)
  ·have HC:=Fd (remC_no (D:=l.map RM.d) (at_:=at_) (k:=(k:Int)) (y:=y.d) (by rw [hyl,hir];simp))
   have HR:=Fd hir
   clear hir hik hyl hkd
   generalize y.items.length=ny at*
   have hw1:IntKind.i64.wrap ((ny:Int) - 1)=(ny:Int) - 1:=IntWalk.i64_in _ (by omega)
   have bq:=(Below.refl W.heap.size W).drew
   go_enter func38,ntmps38
   go_wp2_with fail
   refine wp_region_held_drew (S:=(fun w9=> w9.cell? ⟨gd,0,none⟩=some (.slice (some ⟨b,off,none⟩) l.length c)∧w9.cell? ⟨b,off+k*8+1,none⟩=some (.int .i64 5)∧w9.cell? ⟨ga,0,none⟩=some (.int .i64 at_)∧w9.cell? ⟨g',o'+2,none⟩=some (.slice Az ny cz))) (by kernel_rfl) ?_ (fun hHeld=> ?_)
   ·(try dsimp only);exact ⟨d0,x1,a0,t2⟩
   refine Za 0 (some 8) hHeld _ ?_;try go_frame
   refine Za 1 (some 9) hHeld _ ?_;try go_frame
   refine Za 2 (some 10) hHeld _ ?_;try go_frame
   refine Za 3 (some 11) hHeld _ ?_;try go_frame
   refine Za 4 (some 12) hHeld _ ?_;try go_frame
   refine Za 5 (some 13) hHeld _ ?_;try go_frame
   refine Za 6 (some 14) hHeld _ ?_;try go_frame
   refine Za 7 (some 15) hHeld _ ?_;try go_frame
   refine Za 8 (some 16) hHeld _ ?_;try go_frame
   refine Za 9 (some 17) hHeld _ ?_;try go_frame
   refine Za 10 (some 18) hHeld _ ?_;try go_frame
   refine Za 11 (some 19) hHeld _ ?_;try go_frame
   refine Za 12 (some 20) hHeld _ ?_;try go_frame
   refine Za 13 (some 21) hHeld _ ?_;try go_frame
   refine Za 14 (some 22) hHeld _ ?_;try go_frame
   refine Zi 15 (fun K hK=> ?_)
   go_simp
   refine (Zl _ _ _ _).mono ?_;rintro e w1 ⟨rfl,rfl⟩;rw [HR.out]
   (try go_wp2_with fail)
   refine hK.out _ _ ?_ (fun hHeld=> ?_)
   ·(try dsimp only);exact ⟨cell_later bq d0,cell_later bq x1,cell_later bq a0,cell_later bq t2⟩
   clear hK K
   try go_frame
   refine Za 16 (some 24) hHeld _ ?_;try go_frame
   refine Za 17 (some 25) hHeld _ ?_;try go_frame
   refine wpAnyH_done (by kernel_rfl) ?_ _
   go_wp2
   go_ret
   exact ⟨(bq.mono hlW), .inl ⟨HC.out,rfl⟩⟩
  ·have h01:=Jo.1 hir
   obtain ⟨i,rfl⟩:=Int.eq_ofNat_of_zero_le h01.1
   have hil:i < y.items.length:=by omega
   have HC:=Fd (remC_yes (D:=l.map RM.d) (at_:=(i:Int)) (k:=(k:Int)) (y:=y.d) (by rw [hyl,hir,hik];simp [hkd]))
   rw [Int.toNat_natCast] at HC
   have HR:=Fd hir
   -- the row
   obtain ⟨q,cq,ev,hq⟩:=Ql HBX.out.2.2.own.row (by omega)
   rw [ez] at ev
   simp only [Value.slice.injEq] at ev
   obtain ⟨rfl, -,rfl⟩:=ev
   have hrow:=HBX.out.2.2.own.row
   rw [ez] at hrow
   have hqy:q∈y.bks:=vi_mem hq
   have hql:=HBX.out.2.2.own.lt q hqy
   have hqg:q≠g':=fun e=> HY.out.2 (e ▸ hqy)
   rcases hrow.2 with ⟨hn, -⟩|⟨q',cap,cur,eq', -,hheap,hle,hmx,hsz,htk⟩
   ·cases hn
   simp only [Value.slice.injEq,Option.some.injEq,Addr.mk.injEq,and_true,true_and] at eq'
   obtain ⟨rfl,rfl⟩:=eq'
   obtain ⟨xs,hxs⟩:∃xs,xs=y.items.flatMap Ze:=⟨_,rfl⟩
   rw [←hxs] at htk
   have hxl:xs.length=y.items.length*3:=by rw [hxs];exact Yt Ze 3 Zu _
   have e1:cutA (some ⟨q,0,none⟩) cz i 3=some ⟨q,i*3,none⟩:=by unfold cutA;rw [if_neg (by omega)];simp [Addr.add] <;> omega
   obtain ⟨ad,e2,e3⟩:∃ad,cutA (some ⟨q,0,none⟩) cz (i+1) 3=some ad∧(i+1 < y.items.length→ad=⟨q,(i+1)*3,none⟩):=by
    unfold cutA
    split
    ·exact ⟨_,rfl,fun h=> by omega⟩
    ·exact ⟨_,rfl,fun _=> by simp [Addr.add]⟩
   have e4:cutA (some ⟨q,0,none⟩) cz (y.items.length - 1) 3=some ⟨q,(y.items.length - 1)*3,none⟩:=by unfold cutA;rw [if_neg (by omega)];simp [Addr.add] <;> omega
   have e5:cutA (some ⟨q,0,none⟩) cz 0 3=some ⟨q,0,none⟩:=by unfold cutA;rw [if_neg (by omega)];simp [Addr.add] <;> omega
   have hcut1:=Vr (P:=prog) underlying27 sizeOf29 (some ⟨q,0,none⟩) y.items.length cz i i rfl (by omega)
   have hcut2:=Vr (P:=prog) underlying27 sizeOf29 (some ⟨q,0,none⟩) y.items.length cz ((i:Int)+1) (i+1) (by simp) (by omega)
   have hcut3:=Vr (P:=prog) underlying27 sizeOf29 (some ⟨q,0,none⟩) y.items.length cz ((y.items.length:Int) - 1) (y.items.length - 1) (by omega) (by omega)
   have hcut4:=Rk (P:=prog) underlying27 sizeOf29 (some ⟨q,0,none⟩) y.items.length cz ((y.items.length:Int) - 1) (y.items.length - 1) (by omega) (by omega)
   rw [e1] at hcut1
   rw [e2] at hcut2
   rw [e4,show y.items.length - (y.items.length - 1)=1 by omega] at hcut3
   rw [e5,Nat.sub_zero,Nat.sub_zero] at hcut4
   have hsrc:∀j v,(xs.drop ((i+1)*3))[j]?=some v→W.cell? (ad.add j)=some v:=fun j v hv=> by
    have hj:=(List.getElem?_eq_some_iff.1 hv).1
    rw [List.length_drop,hxl] at hj
    rw [e3 (by omega),show (⟨q,(i+1)*3,none⟩:Addr).add j=⟨q,(i+1)*3+j,none⟩ by simp [Addr.add],hrow.cellAt _ (by omega),←hxs,←List.getElem?_drop]
    exact hv
   have hone:=Un (l:=y.items) HBX.out.2.2.own.its
   rw [←hxs] at hone
   have HSRC:=Fd (And.intro hsrc (And.intro (fun v (hv:v∈xs.drop ((i+1)*3))=> hone v (List.mem_of_mem_drop hv)) (And.intro hheap (And.intro hsz (And.intro htk (And.intro hxl hxs))))))
   have hq1:=hql.1
   have hq2:=hql.2
   have HQ:=Fd (And.intro hq (And.intro hqy (And.intro hmz hcz)))
   clear hir hik hyl hkd h01 hsrc hone hheap hsz htk hxl hxs e1 e2 e3 e4 e5 hql hrow hle hmx ez hmz
   generalize hny:y.items.length=ny at*
   have HN:=Fd hny
   clear hny
   have hw1:IntKind.i64.wrap ((ny:Int) - 1)=(ny:Int) - 1:=IntWalk.i64_in _ (by omega)
   have bq:=(Below.refl W.heap.size W).drew
   go_enter func38,ntmps38
   go_wp2_with fail
   refine wp_region_held_drew (S:=(fun w9=> w9.cell? ⟨gd,0,none⟩=some (.slice (some ⟨b,off,none⟩) l.length c)∧w9.cell? ⟨b,off+k*8+1,none⟩=some (.int .i64 5)∧w9.cell? ⟨ga,0,none⟩=some (.int .i64 i)∧w9.cell? ⟨g',o'+2,none⟩=some (.slice (some ⟨q,0,none⟩) ny cz))) (by kernel_rfl) ?_ (fun hHeld=> ?_)
   ·(try dsimp only);exact ⟨d0,x1,a0,t2⟩
   refine Za 0 (some 8) hHeld _ ?_;try go_frame
   refine Za 1 (some 9) hHeld _ ?_;try go_frame
   refine Za 2 (some 10) hHeld _ ?_;try go_frame
   refine Za 3 (some 11) hHeld _ ?_;try go_frame
   refine Za 4 (some 12) hHeld _ ?_;try go_frame
   refine Za 5 (some 13) hHeld _ ?_;try go_frame
   refine Za 6 (some 14) hHeld _ ?_;try go_frame
   refine Za 7 (some 15) hHeld _ ?_;try go_frame
   refine Za 8 (some 16) hHeld _ ?_;try go_frame
   refine Za 9 (some 17) hHeld _ ?_;try go_frame
   refine Za 10 (some 18) hHeld _ ?_;try go_frame
   refine Za 11 (some 19) hHeld _ ?_;try go_frame
   refine Za 12 (some 20) hHeld _ ?_;try go_frame
   refine Za 13 (some 21) hHeld _ ?_;try go_frame
   refine Za 14 (some 22) hHeld _ ?_;try go_frame
   refine Zi 15 (fun K hK=> ?_)
   go_simp
   refine (Zl _ _ _ _).mono ?_;rintro e w1 ⟨rfl,rfl⟩;rw [HR.out]
   (try go_wp2_with fail)
   refine hK.out _ _ ?_ (fun hHeld=> ?_)
   ·(try dsimp only);exact ⟨cell_later bq d0,cell_later bq x1,cell_later bq a0,cell_later bq t2⟩
   clear hK K
   try go_frame
   refine Za 16 (some 24) hHeld _ ?_;try go_frame
   refine Za 17 (some 25) hHeld _ ?_;try go_frame
   refine wpAnyH_done (by kernel_rfl) ?_ _
   obtain ⟨X0,hX0⟩:∃V,V=W.drew:=⟨_,rfl⟩
   have bq:Below W.heap.size W X0:=by rw [hX0];exact bq
   rw [←hX0]
   clear hX0
   have hw2:IntKind.i64.wrap ((i:Int)+1)=(i:Int)+1:=IntWalk.i64_in _ (by omega)
   have bqd:=bq.drew
   go_wp2_with fail
   refine wp_region_held_drew (S:=(fun w9=> w9.cell? ⟨ga,0,none⟩=some (.int .i64 i)∧w9.cell? ⟨g',o'+2,none⟩=some (.slice (some ⟨q,0,none⟩) ny cz))) (by kernel_rfl) ?_ (fun hHeld=> ?_)
   ·(try dsimp only);exact ⟨cell_later bqd a0,cell_later bqd t2⟩
   refine Za 0 (some 26) hHeld _ ?_;try go_frame
   refine Za 1 (some 27) hHeld _ ?_;try go_frame
   refine Za 2 (some 28) hHeld _ ?_;try go_frame
   refine Za 3 (some 29) hHeld _ ?_;try go_frame
   refine Za 4 (some 30) hHeld _ ?_;try go_frame
   refine Za 5 (some 31) hHeld _ ?_;try go_frame
   refine Za 6 (some 32) hHeld _ ?_;try go_frame
   refine Za 7 (some 33) hHeld _ ?_;try go_frame
   refine Za 8 (some 34) hHeld _ ?_;try go_frame
   refine Za 9 (some 35) hHeld _ ?_;try go_frame
   refine Za 10 (some 36) hHeld _ ?_;try go_frame
   refine Za 11 (some 37) hHeld _ ?_;try go_frame
   refine Za 12 (some 38) hHeld _ ?_;try go_frame
   refine Zi 13 (fun K hK=> ?_)
   refine wp_copyN (.tmp 31) (.tmp 38) 27 27 rfl _ _ rfl rfl (run_copyN X0.drew _ _ _ _ q (i*3) _ _ ad _ _ (ny - (i+1)) 3 cur 29 (xs.drop ((i+1)*3)) underlying27 (by rw [hi];simp [hz1]) ((bqd.block q hq2).trans HSRC.out.2.2.1) (by show min _ _=_;omega) (by rw [List.length_drop,HSRC.out.2.2.2.2.2.1,←HN.out];omega) (fun j v hv=> cell_later bqd (HSRC.out.1 j v hv)) (by rw [List.length_drop,HSRC.out.2.2.2.2.2.1,HSRC.out.2.2.2.1];have:=HQ.out.2.2.2;omega) HSRC.out.2.1) ?_;obtain ⟨X1,hX1⟩:∃V,V=X0.drew.setRow q (cur.toList.take (i*3)++xs.drop ((i+1)*3)++cur.toList.drop (i*3+(xs.drop ((i+1)*3)).length)).toArray:=⟨_,rfl⟩;rw [←hX1];have hoth:∀k,k < W.heap.size→k≠q→X1.heap[k]?=W.heap[k]?:=(fun k h1 h2=> (by rw [hX1,setRow_other _ _ _ _ h2];exact bqd.block k h1));have ha1:X1.cell? ⟨ga,0,none⟩=some (.int .i64 i):=((World.cell?_of_block (a:=⟨ga,0,none⟩) (hoth ga (by omega) (by omega))).trans a0);have ht1:X1.cell? ⟨g',o'+2,none⟩=some (.slice (some ⟨q,0,none⟩) ny cz):=((World.cell?_of_block (a:=⟨g',o'+2,none⟩) (hoth g' hgp (Ne.symm hqg))).trans t2)
   refine hK.out _ _ ?_ (fun hHeld=> ?_)
   ·(try dsimp only);exact ⟨ha1,ht1⟩
   clear hK K
   try go_frame
   refine wpAnyH_done (by kernel_rfl) ?_ _
   obtain ⟨hsrc,hone,hheap,hsz,htk,hxl,hxs⟩:=HSRC.out
   have h1q:X1.heap[q]?=some (.cells (cur.toList.take (i*3)++xs.drop ((i+1)*3)++cur.toList.drop (i*3+(xs.drop ((i+1)*3)).length)).toArray 29 (0,0)):=by rw [hX1];exact setRow_heap _ _ _ _ _ _ ((bqd.block q hq2).trans hheap)
   have hb1:Below lo W X1:=by rw [hX1];exact Go.below_setRow (bqd.mono hlW) hq1 _
   have hLl:cur.toList.length=cz*3:=by rw [Array.length_toList];exact hsz
   have hrr:=rem_row (L:=cur.toList) (xs:=xs) (zs:= [.int .i64 0, .slice none 0 0, .slice none 0 0]) (i:=i) (n:=ny) (c:=cz) hil HQ.out.2.2.2 hLl htk rfl
   have hfit:(ny - 1)*3+3≤(cur.toList.take (i*3)++xs.drop ((i+1)*3)++cur.toList.drop (i*3+(xs.drop ((i+1)*3)).length)).toArray.size:=by
    have hc:=HQ.out.2.2.2
    simp only [List.size_toArray,List.length_append,List.length_take,List.length_drop,hxl,HN.out,hLl]
    omega
   have HRR:=Fd (And.intro hrr (And.intro hfit (And.intro h1q (And.intro hb1 (And.intro hoth (And.intro htk hxs))))))
   have HCUR:=Fd hX1
   clear hsrc hone hheap hsz htk hxl hxs h1q hb1 hLl hrr hfit hX1 hoth HSRC bqd bq hcut1 hcut2
   go_upto_region 6 with (refine Gm rfl (.tmp 51) 27 rfl _ rfl (run_clear1 X1 _ _ _ i0 (.int .i64 0) (.slice none 0 0) (.slice none 0 0) underlying27 hi hz0 rfl rfl rfl q ((ny - 1)*3) _ _ 29 HRR.out.2.2.1 HRR.out.2.1 rfl rfl rfl) ?_)
   obtain ⟨hrr,hfit,h1q,hb1,hoth,htk,hxs⟩:=HRR.out
   obtain ⟨X2,hX2⟩:∃V,V=X1.setRow q ((cur.toList.take (i*3)++xs.drop ((i+1)*3)++cur.toList.drop (i*3+(xs.drop ((i+1)*3)).length)).toArray.toList.take ((ny - 1)*3)++([Value.int .i64 0, .slice none 0 0, .slice none 0 0]:List Value)++(cur.toList.take (i*3)++xs.drop ((i+1)*3)++cur.toList.drop (i*3+(xs.drop ((i+1)*3)).length)).toArray.toList.drop ((ny - 1)*3+3)).toArray:=⟨_,rfl⟩
   rw [←hX2]
   have h2q:X2.heap[q]?=some (.cells ((cur.toList.take (i*3)++xs.drop ((i+1)*3)++cur.toList.drop (i*3+(xs.drop ((i+1)*3)).length)).toArray.toList.take ((ny - 1)*3)++([Value.int .i64 0, .slice none 0 0, .slice none 0 0]:List Value)++(cur.toList.take (i*3)++xs.drop ((i+1)*3)++cur.toList.drop (i*3+(xs.drop ((i+1)*3)).length)).toArray.toList.drop ((ny - 1)*3+3)).toArray 29 (0,0)):=by rw [hX2];exact setRow_heap _ _ _ _ _ _ h1q
   have hb2:Below lo W X2:=by rw [hX2];exact Go.below_setRow hb1 hq1 _
   have hoth2:∀k,k < W.heap.size→k≠q→X2.heap[k]?=W.heap[k]?:=fun k h1 h2=> by rw [hX2,setRow_other _ _ _ _ h2];exact hoth k h1 h2
   have ht2:X2.cell? ⟨g',o'+2,none⟩=some (.slice (some ⟨q,0,none⟩) ny cz):=(World.cell?_of_block (a:=⟨g',o'+2,none⟩) (hoth2 g' hgp (Ne.symm hqg))).trans t2
   have hf2:X2.frozen? ⟨g',o'+2,none⟩=false:=(Gz (hoth2 g' hgp (Ne.symm hqg))).trans (Hn.frozen HBX.out.1 HBX.out.2.1 HBX.out.2.2 2 (by omega))
   simp only [List.toList_toArray] at h2q
   have hny:=HN.out
   have hbx:=HBX.out.1
   have hpt:=HBX.out.2.2
   have hyq:=HQ.out.1
   obtain ⟨X3,hX3⟩:∃V,V=X2.setCell ⟨g',o'+2,none⟩ (.slice (some ⟨q,0,none⟩) (ny - 1) cz):=⟨_,rfl⟩
   have hsub:=VM.rem_bks (y:=y) (i:=i) (vi:= .slice (some ⟨q,0,none⟩) (ny - 1) cz) (by omega) (by rw [hyq];rfl)
   have hynd:y.bks.Nodup:=by
    obtain ⟨rest,hr1, -⟩:=VM.bks_put hpt.sub
    exact (List.nodup_append.1 (hr1.nodup_iff.1 hbx.nd)).1
   have hblk:∀k∈y.bks,k≠q→X3.heap[k]?=W.heap[k]?:=fun k hk hkq=> by
    rw [hX3,Below.heap_setCell _ _ _ _ (fun e=> HY.out.2 (by have e:k=g':=e;rw [←e];exact hk))]
    exact hoth2 k (hpt.own.lt k hk).2 hkq
   have h3q:X3.heap[q]?=X2.heap[q]?:=by rw [hX3];exact Below.heap_setCell _ _ _ _ hqg
   have hynd2:y.vb.ownBlock≠some q∧∀x∈y.items,q ∉ x.bks:=by
    obtain ⟨n,b,vb,vo,l⟩:=y
    simp only [VM.vi_mk,VM.vb_mk,VM.items_mk] at hyq ⊢
    rw [VM.bks_mk,hyq] at hynd
    simp only [Option.toList_some,List.nodup_append,List.mem_append,List.mem_singleton] at hynd
    exact ⟨fun e=> hynd.2.2 q (by rw [e];simp) q (.inl rfl) rfl,fun x hx hm=> hynd.2.1.2.2 q rfl q (VM.mem_bkss hx hm) rfl⟩
   obtain ⟨z,hz⟩:∃z,z=VM.mk y.n y.b y.vb (.slice (some ⟨q,0,none⟩) (ny - 1) cz) (y.items.take i++y.items.drop (i+1)):=⟨_,rfl⟩
   have hmb:∀x∈y.items,∀k∈x.bks,k∈y.bks:=fun x hx k hk=> by
    obtain ⟨n,b,vb,vo,l⟩:=y
    rw [VM.bks_mk]
    exact List.mem_append_right _ (List.mem_append_right _ (VM.mem_bkss hx hk))
   have hzo:z.own lo X3:=by
    rw [hz]
    refine .mk (Qe hpt.own.bytes fun k hk=> hblk k (by obtain ⟨n,b,vb,vo,l⟩:=y;rw [VM.bks_mk];exact List.mem_append_left _ (Option.mem_toList.2 hk)) (fun e=> hynd2.1 (e ▸ hk))) ?_ fun x hx=> ?_
    ·have hl:(y.items.take i++y.items.drop (i+1)).length=ny - 1:=by simp;omega
     rw [hl,List.flatMap_append,←Li Ze 3 Zu,←Lj Ze 3 Zu,←hxs]
     refine ⟨by rw [List.length_append,List.length_take,List.length_drop,hxs,Yt Ze 3 Zu];omega, .inr ⟨q,cz,_,rfl,hq1,h3q.trans h2q,by have:=HQ.out.2.2.2;omega,HQ.out.2.2.1,?_,?_⟩⟩
     ·rw [List.size_toArray];exact hrr.1
     ·rw [List.toList_toArray];exact hrr.2
    ·have hm:x∈y.items:=by
      rcases List.mem_append.1 hx with h|h
      ·exact List.mem_of_mem_take h
      ·exact List.mem_of_mem_drop h
     exact (hpt.own.its x hm).keep fun k hk=> hblk k (hmb x hm k hk) (fun e=> hynd2.2 x hm (e ▸ hk))
   rw [←hz] at hsub
   have hpc:Qq W g' o' (Ze z)=W.setCell ⟨g',o'+2,none⟩ (.slice (some ⟨q,0,none⟩) (ny - 1) cz):=by
    rw [hz]
    show ((W.setCell ⟨g',o',none⟩ (.int .i64 y.n)).setCell ⟨g',o'+1,none⟩ y.vb).setCell ⟨g',o'+2,none⟩ _=_
    rw [Ux t0,Ux t1]
    rfl
   have hB3:Vd X3 lo g 0 (VM.put z x' t):=Vd.put2 hzo (hynd.sublist hsub) hbx hpt.sub (fun k hk=> .inr (hsub.subset hk)) (fun hk=> hbx.out (VM.bks_sub hpt.sub (hsub.subset hk))) (fun k hk hky=> by
    rw [hpt.adr]
    show X3.heap[k]?=(Qq W g' o' (Ze z)).heap[k]?
    rw [hpc,hX3]
    by_cases e:k=g'
    ·subst e
     exact Hh (hoth2 k hgp (Ne.symm hqg))
    ·rw [Below.heap_setCell _ _ _ _ e,Below.heap_setCell _ _ _ _ e]
     refine hoth2 k ?_ (fun e2=> hky (e2 ▸ HQ.out.2.1))
     rcases hk with rfl|hk
     ·exact hgW
     ·exact (hbx.own.lt k hk).2)
   have hb3:Below lo W X3:=by rw [hX3];exact hb2.setCell (p:=⟨g',o'+2,none⟩) hlg' _
   have hzd:z.d=remV i y.d:=by rw [hz,VM.rem_d]
   have HF:=Fd (And.intro hb3 (And.intro hB3 hzd))
   rw [hX3] at HF
   clear hb3 hB3 hzd hpc hsub hzo hmb hz hynd2 h3q hblk hynd hX3 hyq hpt hbx hny h2q hb2 hoth2 hX2 hrr hfit h1q hb1 hoth htk hxs ha1 ht1 HRR HCUR hcut3
   go_wp2
   go_ret
   exact ⟨HF.out.1, .inr ⟨z,rfl,by rw [HF.out.2.2];exact HC.out,HF.out.2.1⟩⟩
 ·have HC:=Fd (remC_no (D:=l.map RM.d) (at_:=at_) (k:=(k:Int)) (y:=y.d) (by rw [hik];simp [hkd]))
  clear hik hyl
  generalize l[k].d.kind=kk at*
  generalize y.items.length=ny at*
  have f5:(kk !=5)=true:=bne_iff_ne.2 hkd
  have bq:=(Below.refl W.heap.size W).drew
  go_enter func38,ntmps38
  go_wp2_with fail
  refine wp_region_held_drew (S:=(fun w9=> w9.cell? ⟨gd,0,none⟩=some (.slice (some ⟨b,off,none⟩) l.length c)∧w9.cell? ⟨b,off+k*8+1,none⟩=some (.int .i64 kk))) (by kernel_rfl) ?_ (fun hHeld=> ?_)
  ·(try dsimp only);exact ⟨d0,x1⟩
  refine Za 0 (some 8) hHeld _ ?_;try go_frame
  refine Za 1 (some 9) hHeld _ ?_;try go_frame
  refine Za 2 (some 10) hHeld _ ?_;try go_frame
  refine Za 3 (some 11) hHeld _ ?_;try go_frame
  refine Za 4 (some 12) hHeld _ ?_;try go_frame
  refine Za 5 (some 13) hHeld _ ?_;try go_frame
  refine Za 6 (some 14) hHeld _ ?_;try go_frame
  refine Za 7 (some 15) hHeld _ ?_;try go_frame
  refine Zh 8 (some 16) hHeld ?_;try go_frame
  refine Zh 9 (some 17) hHeld ?_;try go_frame
  refine Zh 10 (some 18) hHeld ?_;try go_frame
  refine Zh 11 (some 19) hHeld ?_;try go_frame
  refine Zh 12 (some 20) hHeld ?_;try go_frame
  refine Zh 13 (some 21) hHeld ?_;try go_frame
  refine Zh 14 (some 22) hHeld ?_;try go_frame
  refine Zh 15 (some 23) hHeld ?_;try go_frame
  refine Zh 16 (some 24) hHeld ?_;try go_frame
  refine Za 17 (some 25) hHeld _ ?_;try go_frame
  refine wpAnyH_done (by kernel_rfl) ?_ _
  go_wp2
  go_ret
  exact ⟨(bq.mono hlW), .inl ⟨HC.out,rfl⟩⟩
theorem implRem_any (vD:Value) (l:List RM) (x:VM) (s:ByteArray) (at_:Int) (B:Nat) (w:World) (h:Jc w B vD l) (hB:B≤w.heap.size) (ok:∀r∈l,r.d.ok) (sm:∀r∈l,r.d.small 1048576) (hx:x.rd w B) (hs:x.d.size≤2097152) (hat:Qa at_) (hss:s.size≤2097152) (ht:Tab w):
  Calls prog 11 #[.agg #[vD],Qr x, .string s, .int .i64 at_] w (Pa (Vx (Jg (l.map RM.d) x.d (Qu Zf s) (Yl Zf s) (Ib (l.map RM.d) at_)).1) (.bool (Jg (l.map RM.d) x.d (Qu Zf s) (Yl Zf s) (Ib (l.map RM.d) at_)).2) w):=by
 have hE:∀(gd ga:Nat) W,Below w.heap.size w W→W.cell? ⟨gd,0,none⟩=some vD→W.cell? ⟨ga,0,none⟩=some (.int .i64 at_)→
   Calls prog 24 #[.agg #[vD],Qr x, .string s, .func (.func 38) #[] #[.pointer (some ⟨gd,0,none⟩), .pointer (some ⟨ga,0,none⟩)]] W (Pa (Vx (Jg (l.map RM.d) x.d (Qu Zf s) (Yl Zf s) (Ib (l.map RM.d) at_)).1) (.bool (Jg (l.map RM.d) x.d (Qu Zf s) (Yl Zf s) (Ib (l.map RM.d) at_)).2) W):=fun gd ga W hb d0 a0=>
  editRem_any vD l x s B W (h.below (hb.mono hB)) (by have:=hb.size;omega) ok sm (hx.bel (hb.mono hB)) hs hss (Rq ht hb) _ gd ga
   fun x' S lo g t y k g' o' W' hb' hlo hlg hg hlW hbx hfz hxs _ hpt=> remClo_any vD l at_ gd ga B W (h.below (hb.mono hB)) (by have:=hb.size;omega) hat d0 a0 x' S lo g t y k g' o' W' hb' hlo hlg hg hlW hbx hfz hxs hpt
 obtain ⟨A,c,rfl,hc,hm, -⟩:=h.open_
 obtain ⟨Ax,cx,ex, -⟩:=hx.bytes.open_
 obtain ⟨Ay,cy,ey, -⟩:=hx.its.open_
 unfold Qr at hE ⊢
 rw [ex,ey] at hE ⊢
 have HE:=Fd hE
 generalize Jg (l.map RM.d) x.d (Qu Zf s) (Yl Zf s) (Ib (l.map RM.d) at_)=f at*
 clear hE h hx ok sm ht hs ex ey hc hm
 generalize l.length=nl at*
 generalize x.items.length=nx at*
 obtain ⟨W0,hW0⟩:∃W0,W0=((((w.alloc (.cells #[.slice A nl c] 26)).alloc (.cells #[.int .i64 x.n, .slice Ax x.b.length cx, .slice Ay nx cy] 29)).alloc (.cells #[.int .i64 at_] 3)).alloc (.cells #[.int .i64 0, .slice none 0 0, .slice none 0 0] 29)):=⟨_,rfl⟩
 have hb0:Below w.heap.size w W0:=by rw [hW0];exact ((((Below.refl w.heap.size w).alloc (Nat.le_refl _) _).alloc (by simp) _).alloc (by simp;omega) _).alloc (by simp;omega) _
 have hz0:W0.heap.size=w.heap.size+4:=by rw [hW0];simp
 have s0:W0.cell? ⟨w.heap.size,0,none⟩=some (.slice A nl c):=by rw [hW0];simp [go_sem]
 have v0:W0.cell? ⟨w.heap.size+1,0,none⟩=some (.int .i64 x.n):=by rw [hW0];simp [go_sem]
 have v1:W0.cell? ⟨w.heap.size+1,1,none⟩=some (.slice Ax x.b.length cx):=by rw [hW0];simp [go_sem]
 have v2:W0.cell? ⟨w.heap.size+1,2,none⟩=some (.slice Ay nx cy):=by rw [hW0];simp [go_sem]
 have a0:W0.cell? ⟨w.heap.size+1+1,0,none⟩=some (.int .i64 at_):=by rw [hW0];simp [go_sem]
 have HR3:B3 W0 (w.heap.size+1+1+1) (.int .i64 0) (.slice none 0 0) (.slice none 0 0):=by
  rw [hW0]
  have:=B3.new (((w.alloc (.cells #[.slice A nl c] 26)).alloc (.cells #[.int .i64 x.n, .slice Ax x.b.length cx, .slice Ay nx cy] 29)).alloc (.cells #[.int .i64 at_] 3)) (.int .i64 0) (.slice none 0 0) (.slice none 0 0) 29
  simpa using this
 have HE1:=Fd (HE.out w.heap.size (w.heap.size+1+1) W0 hb0 s0 a0)
 clear HE
 go_enter func11,ntmps11
 go_upto_region 1 with fail
 rw [←hW0]
 clear hW0
 go_wp2_with fail
 refine HE1.out.mono ?_
 rintro e w4 ⟨v,rfl,ho,bel⟩
 have HB:=Fd (Zb bel hb0)
 have RB:=HR3.later bel
 obtain ⟨A1,c1,A2,c2,rfl⟩:=ho.agg
 have HO:=Fd ho
 have HZ:=Fd bel.size
 clear ho bel s0 v0 v1 v2 a0 HR3 HE1
 obtain ⟨lt,t0,t1,t2,f0,f1,f2⟩:=RB
 go_wp2
 refine bodyPost_ret (v:= .tuple #[.agg #[.int .i64 f.1.n, .slice A1 f.1.b.length c1, .slice A2 f.1.items.length c2], .bool f.2]) (by simp [results,results11,go_sem,t0,t1,t2]) rfl ⟨_,rfl,?_,Qf HB.out (by omega) _ _ _⟩
 have hz:=HZ.out
 refine (HO.out.set3 (g:=w.heap.size+1+1+1) (.inr (by omega)) _ _ _).wide (by omega) (by simp)
end Go.Proofs.YteldgdelmaeokaaGreatDoor
