/- Out of EdM, RgX, ValLp: the walks and plain laws that the claim needs. No condition but those that each theorem names. -/
import Derived.Test.YtbmoeefnoiecaaaGreatDoorGra
import Derived.Test.YtbmoeefnoiecaaaGreatDoorGb
import Derived.WalkSpells
import Derived.WalkLawsBesides
import Derived.Deep.RegionHeld3
set_option linter.unusedSimpArgs false
set_option linter.unusedVariables false
namespace Go.Proofs.YtbmoeefnoiecaaaGreatDoor
open Go.RowKit
def isKind (D:List RuleD) (k kd:Int):Bool:=match ruleAt D k with|none=> false|some r=> decide (r.kind=kd)
theorem isKind_at {D:List RuleD} {k:Nat} (hk:k < D.length) (kd:Int):isKind D k kd=decide (D[k].kind=kd):=by
 obtain ⟨q,hq,e,hat⟩:=ruleAt_some (D:=D) (i:=(k:Int)) (by omega) (by omega)
 have:q=k:=by omega
 subst this
 unfold isKind
 rw [hat]
def insV (i:Nat) (P y:Val):Val:= .mk y.n y.b (y.items.take i++P::y.items.drop i)
def insC (D:List RuleD) (at_:Int) (P:Val) (k:Int) (y:Val):Option Val:=
 if isKind D k 5 && inB at_ 0 y.items.length then repC D (insV at_.toNat P y) k y else none
theorem insC_no {D:List RuleD} {at_:Int} {P:Val} {k:Int} {y:Val} (h:(isKind D k 5 && inB at_ 0 y.items.length)=false):insC D at_ P k y=none:=by unfold insC;rw [if_neg (by rw [h];exact Bool.false_ne_true)]
theorem insC_yes {D:List RuleD} {at_:Int} {P:Val} {k:Int} {y:Val} (h:(isKind D k 5 && inB at_ 0 y.items.length)=true):insC D at_ P k y=repC D (insV at_.toNat P y) k y:=by unfold insC;rw [if_pos h]
theorem insV_size (i:Nat) (P y:Val):(insV i P y).size=y.size+P.size+1:=by
 have e:y.size=y.b.length+Val.sizes y.items:=by conv=> lhs;rw [Val.eta y,Val.size_mk]
 have e2:Val.sizes y.items=Val.sizes (y.items.take i)+Val.sizes (y.items.drop i):=by rw [←Val.sizes_append,List.take_append_drop]
 unfold insV
 rw [Val.size_mk,Val.sizes_append,Val.sizes_cons]
 omega
theorem setCell_self {w:World} {b o:Nat} {v:Value} (h:w.cell? ⟨b,o,none⟩=some v):w.setCell ⟨b,o,none⟩ v=w:=by
 have e:∀q:World,q.heap=w.heap→q={ w with heap:=q.heap }→q=w:=fun q h1 h2=> by rw [h2,h1]
 refine e _ ?_ rfl
 unfold World.setCell
 apply Array.ext_getElem?
 intro j
 rw [Array.getElem?_modify]
 split
 ·rename_i hj
  simp only at hj
  subst hj
  unfold World.cell? at h
  cases hh:w.heap[b]? with
  |none=> rfl
  |some ob=>
   rw [hh] at h
   cases ob with
   |cells c t fz=>
    have h':c[o]?=some v:=by simpa using h
    obtain ⟨h1,h2⟩:=Array.getElem?_eq_some_iff.1 h'
    have:c.setIfInBounds o v=c:=by
     rw [Array.setIfInBounds_def,dif_pos h1]
     subst h2
     simp
    simp [this]
   | _=> simp at h
 ·rfl
theorem flat_take {T:Type} (c:T→List Value) (size:Nat) (hc:∀t,(c t).length=size):∀(l:List T) (i:Nat),(l.flatMap c).take (i*size)=(l.take i).flatMap c
 | [],i=> by simp
 |x::l,0=> by simp
 |x::l,i+1=> by
  rw [List.flatMap_cons,List.take_succ_cons,List.flatMap_cons,←flat_take c size hc l i,Nat.succ_mul,List.take_append]
  rw [List.take_of_length_le (by rw [hc];omega),hc]
  congr 2
  omega
theorem flat_drop {T:Type} (c:T→List Value) (size:Nat) (hc:∀t,(c t).length=size):∀(l:List T) (i:Nat),(l.flatMap c).drop (i*size)=(l.drop i).flatMap c
 | [],i=> by simp
 |x::l,0=> by simp
 |x::l,i+1=> by
  rw [List.flatMap_cons,List.drop_succ_cons,←flat_drop c size hc l i,Nat.succ_mul,List.drop_append]
  rw [List.drop_of_length_le (by rw [hc];omega),hc,List.nil_append]
  congr 1
  omega
theorem SlV.head {w:World} {B c i:Nat} {A:Option Addr} {l:List VM} (h:SlV w B (.slice A l.length c) l) (hi:i≤l.length) (hc:l.length≤c) (hm:c≤maxLen):Sl w B 3 (.slice (cutA A c 0 3) (i - 0) (c - 0)) (i - 0) ((l.take i).flatMap vmCells):=by
 have:=Sl.cutA h.1 0 i c (Nat.zero_le _) hi (by omega) hm (by decide)
 rw [Nat.zero_mul,List.drop_zero,Nat.sub_zero,flat_take vmCells 3 vmCells_length] at this
 exact this
theorem SlV.rest {w:World} {B c i:Nat} {A:Option Addr} {l:List VM} (h:SlV w B (.slice A l.length c) l) (hi:i≤l.length) (hc:l.length≤c) (hm:c≤maxLen):Sl w B 3 (.slice (cutA A c i 3) (l.length - i) (c - i)) (l.length - i) ((l.drop i).flatMap vmCells):=by
 have:=Sl.cutA h.1 i l.length c hi (Nat.le_refl _) hc hm (by decide)
 rw [flat_drop vmCells 3 vmCells_length,List.take_of_length_le (by rw [flatMap_len vmCells 3 vmCells_length,List.length_drop];exact Nat.le_refl _)] at this
 exact this
theorem one_of_own {lo:Nat} {w:World} {x:VM} (h:x.own lo w):∀u∈vmCells x,u.oneCell'=true:=by
 obtain ⟨A,c,e, -⟩:=h.rd.bytes.open_
 obtain ⟨A',c',e', -⟩:=h.rd.its.open_
 exact vmCells_one e e'
theorem one_of_owns {lo:Nat} {w:World} {l:List VM} (h:∀x∈l,x.own lo w):∀u∈l.flatMap vmCells,u.oneCell'=true:=by
 intro u hu
 obtain ⟨x,hx,hm⟩:=List.mem_flatMap.1 hu
 exact one_of_own (h x hx) u hm
theorem VM.ins_own {lo:Nat} {w:World} {y c:VM} {i:Nat} {vi:Value} (hy:y.own lo w) (hc:c.own lo w) (hi:i≤y.items.length)
  (hr:w.ownsRow lo 33 3 vi (y.items.length+1) ((y.items.take i).flatMap vmCells++vmCells c++(y.items.drop i).flatMap vmCells)):(VM.mk y.n y.b y.vb vi (y.items.take i++c::y.items.drop i)).own lo w:=by
 refine .mk hy.bytes ?_ fun x hx=> ?_
 ·have e:(y.items.take i++c::y.items.drop i).length=y.items.length+1:=by simp;omega
  rw [e,List.flatMap_append,List.flatMap_cons,←List.append_assoc]
  exact hr
 ·simp only [List.mem_append,List.mem_cons] at hx
  rcases hx with hx|rfl|hx
  ·exact hy.its x (List.mem_of_mem_take hx)
  ·exact hc
  ·exact hy.its x (List.mem_of_mem_drop hx)
theorem VM.ins_d (y c:VM) (i:Nat) (vi:Value):(VM.mk y.n y.b y.vb vi (y.items.take i++c::y.items.drop i)).d=insV i c.d y.d:=by
 rw [VM.d_mk]
 unfold insV
 rw [VM.n_d,VM.b_d,VM.items_d,List.map_append,List.map_cons,List.map_take,List.map_drop]
theorem VM.ins_bks {y c:VM} {i g:Nat} {vi:Value} (hv:vi.ownBlock=some g) (hgy:g ∉ y.bks) (hgc:g ∉ c.bks) (hy:y.bks.Nodup) (hc:c.bks.Nodup) (hd:∀k∈c.bks,k ∉ y.bks):
  (VM.mk y.n y.b y.vb vi (y.items.take i++c::y.items.drop i)).bks.Nodup∧∀k∈(VM.mk y.n y.b y.vb vi (y.items.take i++c::y.items.drop i)).bks,k=g∨k∈c.bks∨k∈y.bks:=by
 obtain ⟨n,b,vb,vo,l⟩:=y
 simp only [VM.n_mk,VM.b_mk,VM.vb_mk,VM.items_mk]
 have hp:(VM.mk n b vb vi (l.take i++c::l.drop i)).bks.Perm (g::(c.bks++(vb.ownBlock.toList++VM.bkss l))):=by
  rw [VM.bks_mk,VM.bkss_append,VM.bkss_cons,hv]
  have e:VM.bkss l=VM.bkss (l.take i)++VM.bkss (l.drop i):=by rw [←VM.bkss_append,List.take_append_drop]
  rw [e]
  show (vb.ownBlock.toList++([g]++(VM.bkss (l.take i)++(c.bks++VM.bkss (l.drop i))))).Perm _
  refine (List.perm_append_comm_assoc _ _ _).trans ?_
  refine List.Perm.cons g ?_
  rw [←List.append_assoc (VM.bkss (l.take i))]
  refine (List.Perm.append_left _ (List.Perm.append_right _ List.perm_append_comm)).trans ?_
  rw [List.append_assoc]
  exact List.perm_append_comm_assoc _ _ _
 rw [VM.bks_mk] at hgy hy hd
 have hyn:=List.nodup_append.1 hy
 have hln:=List.nodup_append.1 hyn.2.1
 refine ⟨hp.nodup_iff.2 ?_,fun k hk=> ?_⟩
 ·rw [List.nodup_cons,List.mem_append,List.nodup_append]
  simp only [List.mem_append,not_or] at hgy
  refine ⟨fun h=> ?_,hc,?_,fun a ha b' hb e=> ?_⟩
  ·rcases h with h|h
   ·exact hgc h
   ·rcases List.mem_append.1 h with h|h
    ·exact hgy.1 h
    ·exact hgy.2.2 h
  ·rw [List.nodup_append]
   exact ⟨hyn.1,hln.2.1,fun a ha b' hb e=> hyn.2.2 a ha b' (List.mem_append_right _ hb) e⟩
  ·subst e
   refine hd a ha ?_
   rcases List.mem_append.1 hb with h|h
   ·exact List.mem_append_left _ h
   ·exact List.mem_append_right _ (List.mem_append_right _ h)
 ·rcases List.mem_cons.1 (hp.mem_iff.1 hk) with h|h
  ·exact .inl h
  ·rcases List.mem_append.1 h with h|h
   ·exact .inr (.inl h)
   ·refine .inr (.inr ?_)
    rw [VM.bks_mk]
    rcases List.mem_append.1 h with h|h
    ·exact List.mem_append_left _ h
    ·exact List.mem_append_right _ (List.mem_append_right _ h)
theorem walkV_sz {D:List RuleD}:∀{t:List ByteArray} {k k':Int} {x y:Val},walkV D k x t=some (k',y)→y.size≤x.size
 | [],k,k',x,y,hw=> by rw [walkV_nil] at hw;cases hw;exact Nat.le_refl _
 |s::t,k,k',x,y,hw=> by
  rcases followOf_bd D k x.items.length s with e|⟨j,hj,e⟩
  ·rw [walkV_no (by omega)] at hw;cases hw
  ·rw [walkV_at e hj] at hw
   refine Nat.le_trans (walkV_sz hw) ?_
   have h1:=Val.size_le_of_mem (List.getElem_mem hj)
   have e2:x.size=x.b.length+Val.sizes x.items:=by conv=> lhs;rw [Val.eta x,Val.size_mk]
   omega
theorem VM.sub_put:∀{t:List Nat} {x y:VM} (_:x.sub t=some y) (p:VM),(VM.put p x t).sub t=some p
 | [],x,y,_,p=> rfl
 |j::t,x,y,h,p=> by
  obtain ⟨hj,h⟩:=VM.sub_lt h
  rw [VM.put_at hj,VM.sub_at (by simpa using hj)]
  simp only [VM.items_mk,List.getElem_set_self]
  exact VM.sub_put h p
theorem editV_congr {D:List RuleD} {x y:Val} {ok:Bool} {S:List ByteArray} {c c':Int→Val→Option Val} {k:Int} (hw:walkV D (D.length - 1:Nat) x S=some (k,y)) (h:c k y=c' k y):editV D x ok S c=editV D x ok S c':=by
 unfold editV;rw [hw];simp only [h]
end Go.Proofs.YtbmoeefnoiecaaaGreatDoor
namespace Go.Proofs.YtbmoeefnoiecaaaGreatDoor
open Go.RowKit
section
variable {P:Program} {ops:Array Oper} {Q:Exit→Act→World→Prop} {md:Region.Mode} {S:World→Prop} {m:Nat}
def wpAnyX (P:Program) (md:Region.Mode) (ops:Array Oper) (Q:Exit→Act→World→Prop) (S:World→Prop) (m:Nat):Nat→Array Bool→Act→World→Prop
 |0,listed,a,w=> Region.ready md ops listed= []∧Q .normal a w
 |fuel+1,listed,a,w=>
  (Region.ready md ops listed= []→Q .normal a w)∧
  ∀i∈Region.ready md ops listed,wpOp P ops Q i (fun a' w'=> (i≠m→S w')∧wpAnyX P md ops Q S m fuel (listed.setIfInBounds i true) a' w') a w
theorem wpAny_of_x:∀(fuel:Nat) (listed:Array Bool) (a:Act) (w:World),wpAnyX P md ops Q S m fuel listed a w→wpAny P md ops Q fuel listed a w
 |0,_,_,_,h=> h
 |fuel+1,_,_,_,h=> ⟨h.1,fun i hi=> wpOp_mono (fun a' w' h'=> wpAny_of_x fuel _ a' w' h'.2) (h.2 i hi)⟩
theorem wpAnyX_first {i:Nat} {oi om:Oper} {v:Value} (hi:ops[i]?=some oi) (hm:ops[m]?=some om) (hw:∃e∈om.after,Region.binds md e=true∧e.on=i) (hsel:∀(j:Nat) (o:Oper) cs b,ops[j]?=some o→o.op≠ .select cs b)
  (hQ:∀c a w,Q (.panic c) (a.put oi.dst v) w→Q (.panic c) a w):
  ∀(fuel:Nat) (listed:Array Bool) (a:Act) (w:World),
   (∀j oj,ops[j]?=some oj→j≠i→listed.getD j true=false→(∀e∈oj.after,Region.binds md e=true→e.on≠i)→oi.apart ops oj=true)→
   i∈Region.ready md ops listed→YieldsIf P ops S oi v a→S w→
   wpAnyX P md ops Q S m fuel (listed.setIfInBounds i true) (a.put oi.dst v) w→wpAnyX P md ops Q S m (fuel+1) listed a w:=by
 intro fuel
 induction fuel with
 |zero=>
  intro listed a w _ hr hy hS H
  refine ⟨fun h=> (by rw [h] at hr;cases hr),fun j hj=> ?_⟩
  by_cases hji:j=i
  ·subst hji;exact hy.wpOp hi hS ⟨fun _=> hS,H⟩
  ·have:=ready_mono hj hji
   rw [H.1] at this
   cases this
 |succ fuel ih=>
  intro listed a w hfree hr hy hS H
  refine ⟨fun h=> (by rw [h] at hr;cases hr),fun j hj=> ?_⟩
  by_cases hji:j=i
  ·subst hji;exact hy.wpOp hi hS ⟨fun _=> hS,H⟩
  ·have h1:=H.2 j (ready_mono hj hji)
   obtain ⟨hjun,oj,hoj,hall⟩:=mem_ready.1 hj
   have hnot:∀e∈oj.after,Region.binds md e=true→e.on≠i:=fun e he hb heq=> by
    have h1:=hall e he hb
    have h0:=(mem_ready.1 hr).1
    rw [heq] at h1
    rcases Nat.lt_or_ge i listed.size with h'|h'
    ·simp [h'] at h0 h1;rw [h0] at h1;cases h1
    ·simp [Array.getElem?_eq_none h'] at h1
   have hjm:j≠m:=fun e=> by
    subst e
    rw [hm] at hoj
    cases hoj
    obtain ⟨e,he,hb,heq⟩:=hw
    exact hnot e he hb heq
   have h2:=wpOp_putIf hoj (hfree j oj hoj hji hjun hnot) (fun cs b=> hsel i oi cs b hi) (fun cs b=> hsel j oj cs b hoj) hQ hy h1
   have hfree':∀k ok,ops[k]?=some ok→k≠i→(listed.setIfInBounds j true).getD k true=false→
     (∀e∈ok.after,Region.binds md e=true→e.on≠i)→oi.apart ops ok=true:=fun k ok hk hki hun hno=> by
    refine hfree k ok hk hki ?_ hno
    by_cases hjk:j=k
    ·subst hjk;exact hjun
    ·rw [getD_set_ne true hjk] at hun;exact hun
   refine wpOp_mono (fun a' w' h3=> ⟨h3.2.1,ih (listed.setIfInBounds j true) a' w' hfree' (ready_mono hr (Ne.symm hji)) h3.1 (h3.2.1 hjm) ?_⟩) h2
   rw [Array.setIfInBounds_comm _ _ hji]
   exact h3.2.2
variable {oi:Oper} {d:Option Tmp} {fuel:Nat} {listed:Array Bool} {a:Act} {w:World}
def waitsFor (md:Region.Mode) (ops:Array Oper) (m i:Nat):Bool:=match ops[m]? with|none=> false|some o=> o.after.any fun e=> Region.binds md e && e.on==i
theorem rxTake (i:Nat) (d:Option Tmp) (hS:S w) (v:Value)
  (h:wpAnyX P md ops Q S m fuel (listed.setIfInBounds i true) (a.put d v) w)
  (hi:nthOp ops.toList i=some oi:=by rfl) (hd:oi.dst=d:=by rfl) (hs:Region.noSelect ops=true:=by kernel_rfl) (hf:Region.free md ops listed i=true:=by kernel_rfl) (hr:(Region.ready md ops listed).contains i=true:=by kernel_rfl)
  (hm:waitsFor md ops m i=true:=by kernel_rfl)
  (hQ:∀c v a w,Q (.panic c) (a.put d v) w→Q (.panic c) a w:=by exact fun _ _ _ _ h=> h) (hw:Region.wanted oi (yielded ops a.tmps)=true:=by rfl)
  (hy:∀w,S w→(execOp a.eval oi).run P w= .ok (.value v) w:=by intro w9 hSw;(try dsimp only at hSw);go_simp;try with_reducible rfl):wpAnyX P md ops Q S m (fuel+1) listed a w:=by
 subst hd
 unfold waitsFor at hm
 cases ho:ops[m]? with
 |none=> rw [ho] at hm;cases hm
 |some om=>
  rw [ho] at hm
  simp only [Array.any_eq_true',Bool.and_eq_true,beq_iff_eq] at hm
  exact wpAnyX_first (ops_nth hi) ho (by obtain ⟨e,he,hb,hon⟩:=hm;exact ⟨e,he,hb,hon⟩) (Region.noSelect_spec hs) (fun c a w=> hQ c v a w) fuel listed a w (Region.free_spec (ops_nth hi) hf) (by simpa using hr) (.inl ⟨hw,hy⟩) hS h
theorem rxStep (i:Nat)
  (h:∀K':Act→World→Prop,Shut (∀a w,S w→(S w→wpAnyX P md ops Q S m fuel (listed.setIfInBounds i true) a w)→K' a w)→Oper.wp P oi a w K' Q)
  (hr:Region.ready md ops listed= [i]:=by kernel_rfl) (hi:nthOp ops.toList i=some oi:=by rfl) (hw:Region.wanted oi (yielded ops a.tmps)=true:=by rfl):wpAnyX P md ops Q S m (fuel+1) listed a w:=by
 refine ⟨fun h0=> (by rw [hr] at h0;cases h0),fun j hj=> ?_⟩
 rw [hr,List.mem_singleton] at hj
 subst hj
 refine wpOp_step (ops_nth hi) fun K' hK=> ?_
 rw [if_pos hw]
 exact h K' (fun a w hS hW=> hK a w ⟨fun _=> hS,hW hS⟩)
theorem rxLast (h:∀K':Act→World→Prop,Shut (∀a w,wpAnyX P md ops Q S m fuel (listed.setIfInBounds m true) a w→K' a w)→Oper.wp P oi a w K' Q)
  (hr:Region.ready md ops listed= [m]:=by kernel_rfl) (hi:nthOp ops.toList m=some oi:=by rfl) (hw:Region.wanted oi (yielded ops a.tmps)=true:=by rfl):wpAnyX P md ops Q S m (fuel+1) listed a w:=by
 refine ⟨fun h0=> (by rw [hr] at h0;cases h0),fun j hj=> ?_⟩
 rw [hr,List.mem_singleton] at hj
 subst hj
 refine wpOp_step (ops_nth hi) fun K' hK=> ?_
 rw [if_pos hw]
 exact h K' (fun a w hW=> hK a w ⟨fun h=> absurd rfl h,hW⟩)
theorem wpAnyX_done {listed:Array Bool} {a:Act} {w:World} (hr:Region.ready md ops listed= []) (h:Q .normal a w):
  ∀fuel,wpAnyX P md ops Q S m fuel listed a w
 |0=> ⟨hr,h⟩
 | _+1=> ⟨fun _=> h,by rw [hr];simp⟩
end
theorem wp_region_x_drew {P:Program} {ops:Array Oper} {Q:Exit→Act→World→Prop} {S:World→Prop} (m:Nat) {id:Nat} {a:Act} {w:World} (hm:P.follows .mixedOrders=true) (hS:S w.drew)
  (h:S w.drew→wpAnyX P .any ops Q S m ops.size (Array.replicate ops.size false) a w.drew):(Code.region id ops true).wp P Q a w:=
 wp_region_any hm (wpAny_of_x _ _ _ _ (h hS))
end Go.Proofs.YtbmoeefnoiecaaaGreatDoor
namespace Go.Proofs.YtbmoeefnoiecaaaGreatDoor
open Go.RowKit
def partV (D:List RuleD) (x:Val) (ok:Bool) (S:List ByteArray) (kd:Int):Val × Int × Bool:=
 ((findV D x ok S).1,(findV D x ok S).2.1,(findV D x ok S).2.2 && isKind D (findV D x ok S).2.1 kd)
theorem partV_eq {D:List RuleD} {x y:Val} {ok:Bool} {S:List ByteArray} {k:Int} {b:Bool} (h:findV D x ok S=(y,k,b)) (kd:Int):partV D x ok S kd=(y,k,b && isKind D k kd):=by unfold partV;rw [h]
set_option maxHeartbeats 4000000 in
set_option maxRecDepth 100000 in
theorem l22Part_any (vD:Value) (l:List RM) (x:VM) (s:ByteArray) (kd:Int) (B:Nat) (w:World) (h:SlD w B vD l) (hB:B≤w.heap.size) (ok:∀r∈l,r.d.ok) (sm:∀r∈l,r.d.small 1048576) (hx:x.rd w B) (hs:x.d.size≤4194304) (hss:s.size≤2097152):
  Calls Tryz.prog 52 #[.agg #[vD],vmV x, .string s, .int .i64 kd] w (FindE (partV (l.map RM.d) x.d (spOk isStep s) (spL isStep s) kd) w):=by
 have hlm:(l.map RM.d).length=l.length:=List.length_map ..
 have hF:∀W,Below w.heap.size w W→Calls Tryz.prog 9 #[.agg #[vD],vmV x, .string s] W (FindE (findV (l.map RM.d) x.d (spOk isStep s) (spL isStep s)) W):=fun W hb=>
  specFind_any vD l x s B W (h.below (hb.mono hB)) (by have:=hb.size;omega) ok sm (hx.bel (hb.mono hB)) hs hss
 obtain ⟨A,c,rfl,hc,hm, -⟩:=h.open_
 obtain ⟨Ax,cx,ex, -⟩:=hx.bytes.open_
 obtain ⟨Ay,cy,ey, -⟩:=hx.its.open_
 have hRC:∀k (hk:k < l.length),_:=fun k hk=> rule_cells h k hk
 unfold vmV at hF ⊢
 rw [ex,ey] at hF ⊢
 obtain ⟨FY,FK,FB,hf⟩:∃a b c,findV (l.map RM.d) x.d (spOk isStep s) (spL isStep s)=(a,b,c):=⟨_,_,_,rfl⟩
 rw [hf] at hF
 rw [partV_eq hf]
 have HF:=Lib.hid hF
 have HLM:=Lib.hid hlm
 have HFV:=Lib.hid hf
 have HRC:=Lib.hid hRC
 have hnl:l.length≤9223372036854775807:=by unfold maxLen at hm;omega
 clear hF hlm hf h hx ok sm hs ex ey hc hss hm hRC
 generalize x.items.length=nx at*
 obtain ⟨W0,hW0⟩:∃W0,W0=(((w.alloc (.cells #[.slice A l.length c] 38)).alloc (.cells #[.int .i64 x.n, .slice Ax x.b.length cx, .slice Ay nx cy] 33)).alloc (.cells #[.int .i64 0, .slice none 0 0, .slice none 0 0] 33)):=⟨_,rfl⟩
 have hb0:Below w.heap.size w W0:=by rw [hW0];exact (((Below.refl w.heap.size w).alloc (Nat.le_refl _) _).alloc (by simp) _).alloc (by simp;omega) _
 have hz0:W0.heap.size=w.heap.size+3:=by rw [hW0];simp
 have s0:W0.cell? ⟨w.heap.size,0,none⟩=some (.slice A l.length c):=by rw [hW0];simp [go_sem]
 have v0:W0.cell? ⟨w.heap.size+1,0,none⟩=some (.int .i64 x.n):=by rw [hW0];simp [go_sem]
 have v1:W0.cell? ⟨w.heap.size+1,1,none⟩=some (.slice Ax x.b.length cx):=by rw [hW0];simp [go_sem]
 have v2:W0.cell? ⟨w.heap.size+1,2,none⟩=some (.slice Ay nx cy):=by rw [hW0];simp [go_sem]
 have HR3:B3 W0 (w.heap.size+1+1) (.int .i64 0) (.slice none 0 0) (.slice none 0 0):=by
  rw [hW0]
  have:=B3.new ((w.alloc (.cells #[.slice A l.length c] 38)).alloc (.cells #[.int .i64 x.n, .slice Ax x.b.length cx, .slice Ay nx cy] 33)) (.int .i64 0) (.slice none 0 0) (.slice none 0 0) 33
  simpa using this
 go_enter Tryz.func52,Tryz.ntmps52
 go_upto_region 1 with fail
 rw [←hW0]
 clear hW0
 go_wp2_with fail
 refine (HF.out _ hb0).mono ?_
 rintro e w1 ⟨v,rfl,ho,bel⟩
 obtain ⟨A1,c1,A2,c2,rfl⟩:=ho.agg
 obtain ⟨W2,hW2⟩:∃W2,W2=w1.alloc (.cells #[.int .i64 FY.n, .slice A1 FY.b.length c1, .slice A2 FY.items.length c2] 33):=⟨_,rfl⟩
 have h12:Below w1.heap.size w1 W2:=by rw [hW2];exact (Below.refl _ _).alloc (Nat.le_refl _) _
 have BB2:B3 W2 w1.heap.size (.int .i64 FY.n) (.slice A1 FY.b.length c1) (.slice A2 FY.items.length c2):=by rw [hW2];exact B3.new w1 _ _ _ _
 have b02:=bel.trans (h12.mono bel.size)
 have bw:=below_step b02 hb0
 have hz1:w.heap.size+3≤w1.heap.size:=by have:=bel.size;omega
 have s2:=cell_later b02 s0
 have RB:=HR3.later b02
 have HO:=Lib.hid (ho.keep (Out.of_below h12 0 0) (.inr (Nat.zero_le _)))
 have HZ1:=Lib.hid (And.intro bel.size h12.size)
 clear ho bel h12 b02 s0 v0 v1 v2 HR3 hb0
 go_upto_region 2 with fail
 rw [←hW2]
 clear hW2
 obtain ⟨lb,b0,b1,b2,g0,g1,g2⟩:=BB2
 obtain ⟨lt,t0,t1,t2,f0,f1,f2⟩:=RB
 have HB:=Lib.hid bw
 cases FB
 ·clear HRC HFV HF
  go_wp2
  refine bodyPost_ret (v:= .tuple #[.agg #[.int .i64 FY.n, .slice A1 FY.b.length c1, .slice A2 FY.items.length c2], .int .i64 FK, .bool false]) (by simp [results,Tryz.results52,go_sem,t0,t1,t2]) rfl ⟨_,rfl,?_,below_set3 HB.out (by omega) _ _ _⟩
  have hz:=HZ1.out
  refine (HO.out.set3 (g:=w.heap.size+1+1) (.inr (by omega)) _ _ _).wide (by omega) (by simp;omega)
 ·have hft:=findV_true HFV.out
  have hval:=walkV_valid (k:=((l.map RM.d).length - 1:Nat)) (by
   have:=hft.1
   rw [HLM.out] at this
   have hkn:knownD (l.map RM.d) ((l.length:Int) - 1)=true∧validV (l.map RM.d) ((l.length:Int) - 1) x.d=true:=by simp only [Bool.and_eq_true] at this;exact this.2
   have hl:0 < l.length:=by have:=knownD_at hkn.1;omega
   rw [HLM.out,←root_int hl]
   exact hkn.2) hft.2
  obtain ⟨k,rfl,hk⟩:=validV_rng hval
  rw [HLM.out] at hk
  have hik:isKind (l.map RM.d) k kd=decide (l[k].d.kind=kd):=by rw [isKind_at (by rw [HLM.out];exact hk),List.getElem_map]
  obtain ⟨b,off,A3,c3,A4,c4,A5,c5,A6,c6,rfl,hbB, -, -, -, -, -, -, -, -,hcell⟩:=HRC.out k hk
  obtain ⟨-,x1, -, -, -, -, -, -⟩:=hcell W2 (below_cells bw hB)
  have HIK:=Lib.hid hik
  clear hik hval hft HFV HRC HF hcell
  generalize l[k].d.kind=kk at*
  by_cases hkk:kk=kd
  ·subst hkk
   go_wp2
   refine bodyPost_ret (v:= .tuple #[.agg #[.int .i64 FY.n, .slice A1 FY.b.length c1, .slice A2 FY.items.length c2], .int .i64 k, .bool true]) (by simp [results,Tryz.results52,go_sem,t0,t1,t2]) rfl ⟨.agg #[.int .i64 FY.n, .slice A1 FY.b.length c1, .slice A2 FY.items.length c2],by show _=Ending.returned (.tuple #[_, .int .i64 k, .bool (true && isKind (l.map RM.d) k kk)]);rw [HIK.out];simp,?_,below_set3 HB.out (by omega) _ _ _⟩
   have hz:=HZ1.out
   refine (HO.out.set3 (g:=w.heap.size+1+1) (.inr (by omega)) _ _ _).wide (by omega) (by simp;omega)
  ·have hkk':(kk !=kd)=true:=bne_iff_ne.2 hkk
   have HKK:=Lib.hid hkk
   go_wp2
   refine bodyPost_ret (v:= .tuple #[.agg #[.int .i64 FY.n, .slice A1 FY.b.length c1, .slice A2 FY.items.length c2], .int .i64 k, .bool false]) (by simp [results,Tryz.results52,go_sem,t0,t1,t2]) rfl ⟨.agg #[.int .i64 FY.n, .slice A1 FY.b.length c1, .slice A2 FY.items.length c2],by show _=Ending.returned (.tuple #[_, .int .i64 k, .bool (true && isKind (l.map RM.d) k kd)]);rw [HIK.out];simp [HKK.out],?_,below_set3 HB.out (by omega) _ _ _⟩
   have hz:=HZ1.out
   refine (HO.out.set3 (g:=w.heap.size+1+1) (.inr (by omega)) _ _ _).wide (by omega) (by simp;omega)
end Go.Proofs.YtbmoeefnoiecaaaGreatDoor
